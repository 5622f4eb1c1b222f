/-
  A ROW THAT BEGINS IN A VARIABLE.
-/
import Derived.Test.YtajeoodipplmlaaDoorAbs24
set_option linter.all false
namespace Go.Abs
open Go Go.RowKit
section
variable {P : Program} {G : Nat → Option (List LV)} {n k0 m0 : Nat} {Q : Exit → Env → List Blk → RowsA → Prop} {env : Env} {σ : List Blk} {R : RowsA}
theorem awp_beginC {c : Code} (i j : Nat) (T : TypeId) (sz : Nat) {z : Nat} {B : Blk} (hB : σ[i]? = some B) (hj : B.cells[j]? = some (.slice .cap0 z [])) (h : AWP P G n k0 m0 c Q env (σ.set i ⟨B.T, B.cells.set j (.slice (.row R.length) sz [])⟩) (R ++ [(T, 0)])) : AWP P G n k0 m0 c Q env σ R := by
  intro X0 X a h0 hk hm hE hI he
  have hrl : X.rows.length = R.length := by rw [← hI.rowsR]; simp
  obtain ⟨e, hI'⟩ := hI.emptyRow T sz
  obtain ⟨σ0, R0, hI0⟩ := h0
  have hI2 : Inv G { X with rows := X.rows ++ [⟨none, sz, T, 0⟩] } (σ.set i ⟨B.T, B.cells.set j (.slice (.row R.length) sz [])⟩) (R ++ [(T, 0)]) :=
    { hI' with
      muLen := by rw [List.length_set]; exact hI'.muLen
      blk := fun i' B' b hB' hb => by
        rw [List.getElem?_set] at hB'
        split at hB'
        · rename_i hii
          subst hii
          split at hB'
          · obtain rfl := Option.some.inj hB'
            obtain ⟨cs, h1, h2, h3⟩ := hI'.blk i B b hB hb
            refine ⟨cs, h1, by simpa using h2, fun j' x hx => ?_⟩
            simp only at hx
            rw [List.getElem?_set] at hx
            split at hx
            · rename_i hjj
              subst hjj
              split at hx
              · obtain rfl := Option.some.inj hx
                obtain ⟨cs0, g1, g2, g3⟩ := hI.blk i B b hB hb
                have : cs0 = cs := by
                  have := h1.symm.trans g1
                  simp only [Option.some.injEq, Obj.cells.injEq] at this
                  exact this.1.symm
                subst this
                obtain ⟨r, r1, r2⟩ := g3 j _ hj
                exact ⟨r, r1, by rw [← hrl]; exact row_begin (z := z) r2⟩
              · cases hx
            · exact h3 j' x hx
          · cases hB'
        · exact hI'.blk i' B' b hB' hb }
  refine h X0 { X with rows := X.rows ++ [⟨none, sz, T, 0⟩] } a ⟨σ0, R0, hI0⟩ hk hm (hE.trans hI0 e) hI2 ⟨he.1, he.2.1, fun s v hs => ?_⟩
  obtain ⟨r, r1, r2⟩ := he.2.2 s v hs
  exact ⟨r, r1, e.repV hI r2⟩
end
end Go.Abs
