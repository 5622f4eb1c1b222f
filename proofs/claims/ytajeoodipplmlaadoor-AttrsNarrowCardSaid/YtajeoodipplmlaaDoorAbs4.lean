/-
  THE OPERATIONS THAT ONLY RECKON: what 'pv' says of one is what the model's run comes to, in every world that keeps what was told.
-/
import Derived.Test.YtajeoodipplmlaaDoorAbs3
import Derived.Laws.Tables
import Derived.Laws.StructEq
import Derived.Laws.Cells
import Derived.Laws.BytesArg
import Derived.Laws.Slices
set_option linter.all false
namespace Go.Abs
open Go Go.RowKit

theorem repL_of_rep {X : Ctx} {x : LV} {r : Value} (h : Rep X.Rd x r) : RepL X x r := by
  cases h with
  | int k n => exact .int k n
  | bool b => exact .bool b
  | str s => exact .str s
  | nilp => exact .nilp
  | slice elems a cap b o sz vf h1 h2 h3 h4 h5 h6 => exact .slice elems a cap b o sz vf h1 h2 h3 h4 h5 h6

theorem repL_int {X : Ctx} {k : IntKind} {n : Int} {r : Value} (h : RepL X (.int k n) r) : r = .int k n := by cases (h : Rep X.Rd (.int k n) r); rfl
theorem repL_bool {X : Ctx} {b : Bool} {r : Value} (h : RepL X (.bool b) r) : r = .bool b := by cases (h : Rep X.Rd (.bool b) r); rfl
theorem repL_nilp {X : Ctx} {r : Value} (h : RepL X .nilp r) : r = .pointer none := by cases (h : Rep X.Rd .nilp r); rfl
theorem repL_str {X : Ctx} {l : List Int} {r : Value} (h : RepL X (.str l) r) : ∃ s, r = .string s ∧ strInts s = l := by
  cases (h : Rep X.Rd (.str l) r)
  exact ⟨_, rfl, rfl⟩
theorem mk_int {X : Ctx} (k : IntKind) (n : Int) : RepV X (.l (.int k n)) (.int k n) := Rep.int k n
theorem mk_bool {X : Ctx} (b : Bool) : RepV X (.l (.bool b)) (.bool b) := Rep.bool b

/-- Whatever a slice tells, it tells as a shared one. -/
theorem rep_slice {X : Ctx} {own : Own} {sz : Nat} {e : List (List LV)} {r : Value} (h : RepL X (.slice own sz e) r) : Rep X.Rd (.slice .shared sz e) r := by
  cases own with
  | shared => exact h
  | cap0 =>
    obtain ⟨rfl, a, rfl⟩ := h
    exact .slice [] a 0 0 0 sz (fun _ _ => Go.undef) (Nat.le_refl _) (by simp [maxLen]) (by simp) (.inl rfl) (by simp) (by simp)
  | row i => exact h.1

theorem slice_form {Rd : Nat → Nat → Value → Prop} {own : Own} {sz : Nat} {e : List (List LV)} {r : Value} (h : Rep Rd (.slice own sz e) r) :
    ∃ a cap b o, ∃ vf : Nat → Nat → Value, r = .slice a e.length cap ∧ e.length ≤ cap ∧ cap ≤ maxLen ∧ (∀ c ∈ e, c.length = sz) ∧ (e = [] ∨ a = some ⟨b, o, none⟩) ∧
      (∀ i j, i < e.length → j < sz → Rd b (o + (i * sz + j)) (vf i j)) ∧ (∀ i j c x, e[i]? = some c → c[j]? = some x → Rep Rd x (vf i j)) := by
  cases h with
  | slice elems a cap b o sz vf h1 h2 h3 h4 h5 h6 => exact ⟨a, cap, b, o, vf, rfl, h1, h2, h3, h4, h5, h6⟩

theorem constL_sound {X : Ctx} {v : Value} {x : LV} (h : constL v = some x) : RepL X x v := by
  unfold constL at h
  split at h <;> first | (obtain rfl := Option.some.inj h) | cases h
  · exact Rep.int _ _
  · exact Rep.bool _
  · exact Rep.str _
  · exact Rep.nilp
  · exact ⟨rfl, none, rfl⟩

section
variable {P : Program} {G : Nat → Option (List LV)} {H : Nat → Bool} {X : Ctx} {σ : List Blk} {R : RowsA} {n : Nat} {env : Env} {a : Act}

theorem opR_sound (hI : Inv G X σ R) (he : EnvOk X n env a) {x : Operand} {v : AV} (h : opR G env x = some v) : RepV X v (a.eval x) := by
  cases x with
  | tmp t =>
    obtain ⟨r, h1, h2⟩ := he.2.2 t v h
    simp only [Act.eval, Array.getD_eq_getD_getElem?, h1, Option.getD_some]
    exact h2
  | const c =>
    simp only [opR, constA] at h
    cases hc : constL c with
    | none => simp [hc] at h
    | some y => simp [hc] at h; subst h; exact constL_sound hc
  | global g =>
    simp only [opR] at h
    cases hg : G g with
    | none => simp [hg] at h
    | some cells =>
      simp [hg] at h; subst h
      refine ⟨g, 0, rfl, fun j x hx => ?_⟩
      obtain ⟨u, h1, h2⟩ := hI.glob g cells hg j x hx
      exact ⟨u, by simpa using h1, h2⟩
  | func f =>
    simp only [opR, Option.some.injEq] at h; subst h
    exact ⟨#[], rfl, rfl, fun j c hc => by simp at hc⟩

theorem unI_sound {v : AV} {r : Value} (h : RepV X v r) : RepV X (unI v) r := by
  cases v with
  | ifb c w =>
    cases c with
    | false => exact h
    | true =>
      have := h.1 rfl
      cases w with
      | l x => exact this
      | agg x => exact this
      | undef => exact this
      | tup x => exact this.elim
      | ifb x y => exact this.elim
  | _ => exact h
theorem opA_sound (hI : Inv G X σ R) (he : EnvOk X n env a) {x : Operand} {v : AV} (h : opA G env x = some v) : RepV X v (a.eval x) := by
  simp only [opA, Option.map_eq_some_iff] at h
  obtain ⟨u, h1, rfl⟩ := h
  exact unI_sound (opR_sound hI he h1)

theorem opU_sound (hI : Inv G X σ R) (he : EnvOk X n env a) {x : Operand} {g : Bool} {v : AV} (h : opU G env x = some (g, v)) (hg : g = true) : RepV X v (a.eval x) := by
  simp only [opU] at h
  cases ho : opR G env x with
  | none => simp [ho] at h
  | some u =>
    simp only [ho, Option.map_some, Option.some.injEq] at h
    have hs := opR_sound hI he ho
    cases u with
    | ifb c w =>
      simp only [AV.un, Prod.mk.injEq] at h
      obtain ⟨rfl, rfl⟩ := h
      have := hs.1 hg
      cases w with
      | l x => exact this
      | agg x => exact this
      | undef => exact this
      | tup x => exact this.elim
      | ifb x y => exact this.elim
    | l x => simp only [AV.un, Prod.mk.injEq] at h; obtain ⟨rfl, rfl⟩ := h; exact hs
    | agg x => simp only [AV.un, Prod.mk.injEq] at h; obtain ⟨rfl, rfl⟩ := h; exact hs
    | tup x => simp only [AV.un, Prod.mk.injEq] at h; obtain ⟨rfl, rfl⟩ := h; exact hs
    | undef => simp only [AV.un, Prod.mk.injEq] at h; obtain ⟨rfl, rfl⟩ := h; exact hs

/-- A world that keeps what was told, and the variables of 'H'. -/
def Agree (H : Nat → Bool) (X : Ctx) (w : World) : Prop :=
  (∀ b o u, X.Rd b o u → w.cell? ⟨b, o, none⟩ = some u) ∧ ∀ (i b : Nat), X.mu[i]? = some b → H i = true → w.heap[b]? = X.w.heap[b]?

theorem Agree.here : Agree H X X.w := ⟨fun _ _ _ h => h.1, fun _ _ _ _ => rfl⟩

theorem info_of_sz {t : TypeId} (h : 0 < szT P t) : ∃ i, P.info? t = some i ∧ i.size = szT P t := by
  unfold szT at *
  cases hi : P.info? t with
  | none => simp [hi] at h
  | some i => exact ⟨i, rfl, by simp⟩
theorem info_of_und {t : TypeId} {d : TypeDesc} (h : P.underlying t = some d) : ∃ i, P.info? t = some i ∧ i.size = szT P t := by
  unfold szT Program.underlying at *
  cases hi : P.info? t with
  | none => simp [hi] at h
  | some i => exact ⟨i, rfl, by simp⟩
theorem run_sizeT {t : TypeId} {i : TypeInfo} (h : P.info? t = some i) (w : World) : (sizeOf t).run P w = .ok i.size w := by simp [sizeOf, typeInfo, h]
theorem run_isAggT {t : TypeId} {d : TypeDesc} (h : P.underlying t = some d) (w : World) : (isAgg t).run P w = .ok (aggD (some d)) w := by
  simp only [isAgg, Sem.run_bind, run_underlying h, Result.andThen_ok]
  cases d <;> rfl

theorem add_lit (b o k : Nat) : Addr.add ⟨b, o, none⟩ k = ⟨b, o + k, none⟩ := Addr.add_lit b o k

/-- Cells that tell a list of values: read. -/
theorem run_read {w : World} {b o : Nat} {cells : List LV} {t : TypeId} {v : AV} {off : Nat}
    (hc : ∀ (j : Nat) (x : LV), cells[j]? = some x → ∃ u, w.cell? ⟨b, o + j, none⟩ = some u ∧ RepL X x u)
    (h : readV P t cells off = some v) : ∃ r, (loadVar t ⟨b, o + off, none⟩).run P w = .ok r w ∧ RepV X v r := by
  unfold readV at h
  cases hd : P.underlying t with
  | none => simp [hd] at h
  | some d =>
    simp only [hd] at h
    by_cases hag : aggD (some d) = true
    · rw [if_pos hag] at h
      obtain ⟨i, hi, hsz⟩ := info_of_und hd
      split at h
      · rename_i hle
        obtain rfl := Option.some.inj h
        have hex : ∀ j, j < szT P t → ∃ u, w.cell? ⟨b, o + off + j, none⟩ = some u ∧ ∀ x, cells[off + j]? = some x → RepL X x u := fun j hj => by
          obtain ⟨u, h1, h2⟩ := hc (off + j) cells[off + j] (List.getElem?_eq_getElem (by omega))
          refine ⟨u, by rw [Nat.add_assoc]; exact h1, fun x hx => ?_⟩
          rw [List.getElem?_eq_getElem (by omega)] at hx
          obtain rfl := Option.some.inj hx
          exact h2
        let f : Nat → Value := fun j => (w.cell? ⟨b, o + off + j, none⟩).getD Go.undef
        have hl := run_loadCells (P := P) w ⟨b, o + off, none⟩ (szT P t) f (fun j hj => by
          obtain ⟨u, h1, _⟩ := hex j hj
          rw [add_lit, h1]; simp [f, h1])
        refine ⟨.agg ((List.range (szT P t)).map f).toArray, ?_, ⟨_, rfl, by simp; omega, fun j x hx => ?_⟩⟩
        · simp [loadVar, run_isAggT hd, hag, run_sizeT hi, hsz, hl]
        · have hj : j < szT P t := by
            have := (List.getElem?_eq_some_iff.1 hx).1
            simp at this; omega
          obtain ⟨u, h1, h2⟩ := hex j hj
          refine ⟨u, by simp [hj, f, h1], h2 x ?_⟩
          rw [List.getElem?_take, if_pos hj, List.getElem?_drop] at hx
          exact hx
      · cases h
    · rw [if_neg hag] at h
      cases hx : cells[off]? with
      | none => simp [hx] at h
      | some x =>
        simp [hx] at h; subst h
        obtain ⟨u, h1, h2⟩ := hc off x hx
        refine ⟨u, ?_, h2⟩
        simp [loadVar, run_isAggT hd, hag, h1]

theorem load_sound (hI : Inv G X σ R) {v u : AV} {t : TypeId} {r : Value} (hr : RepV X v r) (h : loadV P H t σ v = some u) :
    ∃ q, RepV X u q ∧ ∀ w', Agree H X w' → (Instr.loadAt t r).run P w' = .ok q w' := by
  unfold loadV at h
  split at h
  · rename_i i off
    obtain ⟨b, hb, rfl⟩ := hr
    split at h
    · rename_i hH
      split at h
      · rename_i B hB
        obtain ⟨cs, h1, h2, h3⟩ := hI.blk i B b hB hb
        have key : ∀ w', Agree H X w' → ∃ q, (loadVar t ⟨b, 0 + off, none⟩).run P w' = .ok q w' ∧ RepV X u q := fun w' hw' => by
          refine run_read (X := X) (fun j x hx => ?_) h
          obtain ⟨q, k1, k2⟩ := h3 j x hx
          refine ⟨q, ?_, k2⟩
          rw [Nat.zero_add, cell_block (hw'.2 i b hb hH), cell_heap h1]
          exact k1
        obtain ⟨q, q1, q2⟩ := key X.w Agree.here
        refine ⟨q, q2, fun w' hw' => ?_⟩
        obtain ⟨q', q1', _⟩ := key w' hw'
        have : q' = q := by
          -- the cells are the same in both
          have hd : ∀ (k : Nat), w'.cell? ⟨b, k, none⟩ = X.w.cell? ⟨b, k, none⟩ := fun k => cell_block (hw'.2 i b hb hH)
          have hl : ∀ (m k : Nat) (acc : Array Value) (z : Array Value), (loadCellsFrom ⟨b, 0 + off, none⟩ k m acc).run P X.w = .ok z X.w → (loadCellsFrom ⟨b, 0 + off, none⟩ k m acc).run P w' = .ok z w' := by
            intro m
            induction m with
            | zero => intro k acc z hz; simp [loadCellsFrom] at hz ⊢; exact hz
            | succ m ih =>
              intro k acc z hz
              simp only [loadCellsFrom, Sem.run_bind, run_load, add_lit] at hz ⊢
              rw [hd]
              cases hcell : X.w.cell? ⟨b, 0 + off + k, none⟩ with
              | some u => rw [hcell] at hz; simp only [Result.andThen_ok] at hz ⊢; exact ih _ _ _ hz
              | none =>
                rw [hcell] at hz
                exfalso
                revert hz
                cases hfl : X.w.farLoad P ⟨b, 0 + off + k, none⟩ (Mode.plain == Mode.atomic) with
                | ok p =>
                  simp only [World.farLoad, h1] at hfl
                  cases hfl
                | error e => simp
          unfold readV at h
          cases hud : P.underlying t with
          | none => simp [hud] at h
          | some d =>
            simp only [loadVar, Sem.run_bind, run_isAggT hud, Result.andThen_ok] at q1 q1'
            by_cases hag : aggD (some d) = true
            · obtain ⟨ii, hii, hsz⟩ := info_of_und hud
              simp only [hag, if_true, Sem.run_bind, run_sizeT hii, Result.andThen_ok] at q1 q1'
              cases hrun : (loadCells ⟨b, 0 + off, none⟩ ii.size).run P X.w with
              | halt e w2 => rw [hrun] at q1; cases q1
              | ok z w2 =>
                rw [hrun] at q1
                simp only [Result.andThen_ok, Sem.run_pure, Result.ok.injEq] at q1
                obtain ⟨rfl, rfl⟩ := q1
                rw [show (loadCells ⟨b, 0 + off, none⟩ ii.size).run P w' = .ok z w' from hl _ _ _ _ hrun] at q1'
                simp only [Result.andThen_ok, Sem.run_pure, Result.ok.injEq] at q1'
                exact q1'.1.symm
            · simp only [hag, if_false, Bool.false_eq_true, run_load, hd] at q1 q1'
              cases hcell : X.w.cell? ⟨b, 0 + off, none⟩ with
              | some u =>
                rw [hcell] at q1 q1'
                simp only [Result.ok.injEq] at q1 q1'
                exact q1'.1.symm.trans q1.1
              | none =>
                rw [hcell] at q1
                revert q1
                cases hfl : X.w.farLoad P ⟨b, 0 + off, none⟩ (Mode.plain == Mode.atomic) with
                | ok p =>
                  simp only [World.farLoad, h1] at hfl
                  cases hfl
                | error e => simp
        subst this
        simp only [Instr.loadAt, Instr.sureAddr, Sem.run_bind, Sem.run_pure, Result.andThen_ok]
        simpa using q1'
      · cases h
    · cases h
  · rename_i cells off
    obtain ⟨b, o, rfl, hc⟩ := hr
    have hcx : ∀ w', Agree H X w' → ∀ (j : Nat) (x : LV), cells[j]? = some x → ∃ q, w'.cell? ⟨b, o + j, none⟩ = some q ∧ RepL X x q ∧ X.w.cell? ⟨b, o + j, none⟩ = some q := fun w' hw' j x hx => by
      obtain ⟨q, k1, k2⟩ := hc j x hx
      exact ⟨q, hw'.1 _ _ _ k1, repL_of_rep k2, k1.1⟩
    unfold readV at h
    cases hud : P.underlying t with
    | none => simp [hud] at h
    | some d =>
      simp only [hud] at h
      by_cases hag : aggD (some d) = true
      · rw [if_pos hag] at h
        obtain ⟨ii, hii, hsz⟩ := info_of_und hud
        split at h
        · rename_i hle
          obtain rfl := Option.some.inj h
          let f : Nat → Value := fun j => (X.w.cell? ⟨b, o + off + j, none⟩).getD Go.undef
          have hfw : ∀ w', Agree H X w' → ∀ j, j < szT P t → w'.cell? ((⟨b, o + off, none⟩ : Addr).add j) = some (f j) := fun w' hw' j hj => by
            obtain ⟨q, k1, _, k3⟩ := hcx w' hw' (off + j) cells[off + j] (List.getElem?_eq_getElem (by omega))
            rw [← Nat.add_assoc] at k1 k3
            rw [add_lit, k1]; simp [f, k3]
          refine ⟨.agg ((List.range (szT P t)).map f).toArray, ⟨_, rfl, by simp; omega, fun j x hx => ?_⟩, fun w' hw' => ?_⟩
          · have hj : j < szT P t := by
              have := (List.getElem?_eq_some_iff.1 hx).1
              simp at this; omega
            rw [List.getElem?_take, if_pos hj, List.getElem?_drop] at hx
            obtain ⟨q, _, k2, k3⟩ := hcx X.w Agree.here (off + j) x hx
            rw [← Nat.add_assoc] at k3
            exact ⟨q, by simp [hj, f, k3], k2⟩
          · have hl := run_loadCells (P := P) w' ⟨b, o + off, none⟩ (szT P t) f (hfw w' hw')
            simp [Instr.loadAt, Instr.sureAddr, loadVar, run_isAggT hud, hag, run_sizeT hii, hsz, hl]
        · cases h
      · rw [if_neg hag] at h
        cases hx : cells[off]? with
        | none => simp [hx] at h
        | some x =>
          simp [hx] at h; subst h
          obtain ⟨q, k1, k2, k3⟩ := hcx X.w Agree.here off x hx
          refine ⟨q, k2, fun w' hw' => ?_⟩
          obtain ⟨q', k1', _, k3'⟩ := hcx w' hw' off x hx
          rw [k3] at k3'
          obtain rfl := Option.some.inj k3'
          simp [Instr.loadAt, Instr.sureAddr, loadVar, run_isAggT hud, hag, k1']
  · cases h
end
end Go.Abs
