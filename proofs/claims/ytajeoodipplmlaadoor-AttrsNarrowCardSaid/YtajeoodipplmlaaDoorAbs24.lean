/-
  A CALL's RESULT, TOLD WITHOUT ITS ROWS.
-/
import Derived.Test.YtajeoodipplmlaaDoorAbs18
set_option linter.all false
namespace Go.Abs
open Go Go.RowKit
theorem acx_drop {P : Program} {G : Nat → Option (List LV)} {g : FuncId} {args : List AV} {v v' : AV} {R' : RowsA} (h : ACX P G g args [] [] v [] R') (hw : v.wk (v'.rnR [])) (hc : v'.cl 0 0 = true) : ACX P G g args [] [] v' [] [] := by
  obtain ⟨h1, h2⟩ := h
  refine ⟨h1, fun X argsV hI hl ha => (h2 X argsV hI hl ha).mono ?_⟩
  rintro e w ⟨res, r, σ'', R'', X', rfl, ⟨rfl, rfl, rfl⟩, rfl, hE, hH, hI', hr⟩
  have hrl : X.rows.length = 0 := by have := hI.rowsR; simpa using congrArg List.length this
  have hrl' : X'.rows.length = R''.length := by rw [← hI'.rowsR]; simp
  have hmu : X.mu.length = 0 := hI.muLen
  refine ⟨v', r, [], [], X'.trim 0 [], rfl, ⟨rfl, rfl, rfl⟩, rfl, ?_, fun _ _ _ hh => (by cases hh), ?_, ?_⟩
  · exact hE.trim hrl' (by rw [hmu]; exact Nat.le_refl _) hrl (keeps_nil _)
  · exact hI'.trim (Nat.zero_le _) (keeps_nil _) (by simp [wkS]) rfl
  · exact trim_repV (fun i hi => by cases hi) hc (wkA_sound hw hr)
/-- A slice that is the caller's from now on: as one that is only read. -/
theorem acx_read {P : Program} {G : Nat → Option (List LV)} {g : FuncId} {args : List AV} {i sz : Nat} {e : List (List LV)} {R' : RowsA} (h : ACX P G g args [] [] (.l (.slice (.row i) sz e)) [] R') : ACX P G g args [] [] (.l (.slice .shared sz e)) [] [] :=
  acx_drop h ⟨rfl, rfl⟩ rfl
section
variable {P : Program} {G : Nat → Option (List LV)} {He : Nat → Bool} {σ σ' : List Blk} {R R' : RowsA}
/-- What must hold first, found by itself. -/
theorem Must.au {S K : Prop} (k : K) (h : S := by intro hh; first | exact hh | exact ⟨hh, hh⟩ | exact ⟨hh, fun h2 => ⟨hh, h2⟩⟩ | (simp [hh]; done) | (simp only [Bool.and_eq_true, Bool.or_eq_false_iff, Bool.not_eq_true', Bool.not_eq_false', decide_eq_true_eq, decide_eq_false_iff_not] at hh ⊢; first | exact hh | exact hh.1 | exact hh.2 | exact ⟨hh, hh⟩ | exact ⟨hh.1, hh.1⟩ | exact ⟨hh.2, hh.2⟩ | exact ⟨hh.1, hh.2⟩ | exact hh.1.1 | exact hh.1.2 | (simp [hh]; done))) : Must S K := ⟨h, k⟩
/-- Calls whose side conditions are found by themselves. -/
theorem acall_pa {f : FuncId} {args args' : List AV} {K : AV → List Blk → RowsA → Prop} {res : AV} (hc : ACX P G f args' [] [] res [] []) (hK : K (res.rn [] [] σ.length R.length) σ R)
    (hargs : wkT args (args'.map (·.rn1 [] [] σ.length R.length)) := by first | exact ⟨rfl, trivial⟩ | exact ⟨rfl, rfl, trivial⟩ | exact ⟨rfl, rfl, rfl, trivial⟩ | (simp only [go_sem]; done) | (simp only [go_sem] <;> (repeat' apply And.intro) <;> first | rfl | omega | trivial)) : ACK P G He f args σ R K :=
  acall_p hc hargs hK
theorem acall_xa {f : FuncId} {args args' : List AV} {K : AV → List Blk → RowsA → Prop} {σc : List Blk} {Rc : RowsA} {res : AV} (hc : ACX P G f args' σc Rc res σ' R') (is ks : List Nat)
    (hK : K (res.rn is ks σ.length R.length) (setMany σ is (σ'.map (·.rn is ks σ.length R.length)) ++ (σ'.drop is.length).map (·.rn is ks σ.length R.length)) (setMany R ks R' ++ R'.drop ks.length))
    (hnis : is.Nodup := by decide) (hnks : ks.Nodup := by decide) (hH : ∀ i ∈ is, He i = false := by simp)
    (hargs : wkT args (args'.map (·.rn1 is ks σ.length R.length)) := by first | (simp only [go_sem]; done) | (simp only [go_sem] <;> (repeat' apply And.intro) <;> first | rfl | omega | trivial))
    (hσ : subS σ (·.rn is ks σ.length R.length) is σc := by first | (simp only [go_sem]; done) | (simp only [go_sem] <;> (repeat' apply And.intro) <;> first | rfl | omega | trivial))
    (hR : subR R ks Rc := by first | (simp only [go_sem]; done) | (simp only [go_sem] <;> (repeat' apply And.intro) <;> first | rfl | omega | trivial)) : ACK P G He f args σ R K :=
  acall_x hc is ks hnis hnks hH hargs hσ hR hK
end
end Go.Abs
