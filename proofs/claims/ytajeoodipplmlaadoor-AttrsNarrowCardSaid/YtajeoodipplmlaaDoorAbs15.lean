/-
  A STATEMENT WHOSE ORDER IS OPEN: what only reckons, or reads what nobody in it writes, may be taken first; the rest is carried out in whatever order may come up ('awp_draw').
-/
import Derived.Test.YtajeoodipplmlaaDoorAbs14
set_option linter.all false
namespace Go.Abs
open Go Go.RowKit

inductive Plan where
  | done
  | early (i : Nat) (p : Plan)
  | last (i : Nat) (p : Plan)
  | fork (i : Nat) (p q : Plan)
  | late (i : Nat) (p : Plan)

def earlyV (P : Program) (G : Nat → Option (List LV)) (H : Nat → Bool) (env : Env) (σ : List Blk) (K : AV → Prop) (op : Op) : Prop :=
  match pv P G H env σ op with
  | some (S, v) => S ∧ K v
  | none => match op with
    | .indexAddr t x i => (match opA G env x, opA G env i with
      | some (.l (.slice _ sz e)), some (.l (.int _ n)) => (match elemT P t with
        | some et => szT P et = sz ∧ 0 < sz ∧ ∃ h : 0 ≤ n ∧ n.toNat < e.length, K (.l (.eptr (e[n.toNat]'h.2) 0))
        | none => False)
      | _, _ => False)
    | _ => False

def early (P : Program) (G : Nat → Option (List LV)) (H : Nat → Bool) (ops : Array Oper) (env : Env) (σ : List Blk) (o : Oper) (K : AV → Prop) : Prop :=
  match o.guard with
  | none => earlyV P G H env σ K o.op
  | some (j, want) => match gval ops env j want with
    | none => False
    | some g => match pv P G H env σ o.op with
      | some (S, v) => (match mkIfb g v with
        | some u => (g = true → S) ∧ K u
        | none => False)
      | none => (g = true → earlyV P G H env σ (WidV K) o.op) ∧ (g = false → ∃ u, AV.no u = true ∧ K u)

/-- What comes late: operations that wait for all that was taken early, up to the first of them. -/
def latesOf : Plan → List Nat
  | .done => []
  | .early _ p => latesOf p
  | .last _ p => latesOf p
  | .fork _ p q => latesOf p ++ latesOf q
  | .late i _ => [i]
/-- Those that wait for one, or for such as wait for it. -/
def waiters (ops : Array Oper) (listed : Array Bool) (i : Nat) : Nat → List Nat → List Nat
  | 0, C => C
  | f + 1, C => waiters ops listed i f ((List.range ops.size).filter fun c => !listed.getD c true && ((ops[c]?).map fun o => o.after.toList.any fun e => Region.binds .any e && (e.on == i || C.contains e.on)).getD false)
def waitOk (ops : Array Oper) (listed : Array Bool) (i : Nat) (C : List Nat) : Bool :=
  C.all fun c => !listed.getD c true && ((ops[c]?).map fun o => o.after.toList.any fun e => Region.binds .any e && (e.on == i || C.contains e.on)).getD false
def lateFree (ops : Array Oper) (D : List Nat) (listed : Array Bool) (i : Nat) : Bool :=
  match D with
  | [] => true
  | _ => waitOk ops listed i (waiters ops listed i ops.size []) && D.all fun j => listed.getD j true || (waiters ops listed i ops.size []).contains j

def planOk (ops : Array Oper) : Plan → List Nat → List Nat → Nat → Array Bool → Bool
  | .done, _, _, _, listed => (Region.ready .any ops listed).isEmpty
  | .early _ _, _, _, 0, _ => false
  | .last _ _, _, _, 0, _ => false
  | .fork _ _ _, _, _, 0, _ => false
  | .late _ _, _, _, 0, _ => false
  | .early i p, D, cov, f + 1, listed => cov.isEmpty && Region.free .any ops listed i && (Region.ready .any ops listed).contains i && !D.contains i && (((ops[i]?).map fun o => memFree o.op).getD false || lateFree ops D listed i) && planOk ops p D [] f (listed.setIfInBounds i true)
  | .last i p, D, cov, f + 1, listed => !D.contains i && (Region.ready .any ops listed).all (fun j => (i :: cov).contains j) && (Region.ready .any ops listed).contains i && planOk ops p D [] f (listed.setIfInBounds i true)
  | .fork i p q, D, cov, f + 1, listed => !D.contains i && planOk ops p D [] f (listed.setIfInBounds i true) && planOk ops q D (i :: cov) (f + 1) listed
  | .late i p, D, cov, f + 1, listed => D.contains i && (Region.ready .any ops listed).all (fun j => (i :: cov).contains j) && (Region.ready .any ops listed).contains i && planOk ops p (latesOf p) [] f (listed.setIfInBounds i true)

def arun (P : Program) (G : Nat → Option (List LV)) (H : Nat → Bool) (ops : Array Oper) (K : Env → List Blk → RowsA → Prop) : Plan → Env → List Blk → RowsA → Prop
  | .done, env, σ, R => K env σ R
  | .early i p, env, σ, R => match ops[i]? with
    | some o => early P G H ops env σ o fun v => arun P G H ops K p (envPut o.dst v env) σ R
    | none => False
  | .last i p, env, σ, R => match ops[i]? with
    | some o => astep P G (fun _ => true) H ops env σ R o fun v σ' R' => arun P G H ops K p (envPut o.dst v env) σ' R'
    | none => False
  | .fork i p q, env, σ, R => (match ops[i]? with
    | some o => astep P G (fun _ => true) H ops env σ R o fun v σ' R' => arun P G H ops K p (envPut o.dst v env) σ' R'
    | none => False) ∧ arun P G H ops K q env σ R
  | .late i p, env, σ, R => match ops[i]? with
    | some o => astep P G (fun _ => true) (fun _ => false) ops env σ R o fun v σ' R' => arun P G H ops K p (envPut o.dst v env) σ' R'
    | none => False

/-! ### Orders in which some come late: behind those nothing need stay as it was -/
def wpAnyL (P : Program) (ops : Array Oper) (Q : Exit → Act → World → Prop) (D : List Nat) (S : World → Prop) : Nat → Array Bool → Act → World → Prop
  | 0, listed, a, w => Region.ready .any ops listed = [] ∧ Q .normal a w
  | fuel + 1, listed, a, w =>
    (Region.ready .any ops listed = [] → Q .normal a w) ∧
    ∀ i ∈ Region.ready .any ops listed, wpOp P ops Q i (fun a' w' => if i ∈ D then wpAny P .any ops Q fuel (listed.setIfInBounds i true) a' w' else S w' ∧ wpAnyL P ops Q D S fuel (listed.setIfInBounds i true) a' w') a w

section
variable {P : Program} {ops : Array Oper} {Q : Exit → Act → World → Prop} {D : List Nat} {S : World → Prop}

theorem wpAny_of_late : ∀ (fuel : Nat) (listed : Array Bool) (a : Act) (w : World), wpAnyL P ops Q D S fuel listed a w → wpAny P .any ops Q fuel listed a w
  | 0, _, _, _, h => h
  | fuel + 1, _, _, _, h => ⟨h.1, fun i hi => wpOp_mono (fun a' w' h' => by
      split at h'
      · exact h'
      · exact wpAny_of_late fuel _ a' w' h'.2) (h.2 i hi)⟩

theorem wpAnyL_weaken {S' : World → Prop} (hS : ∀ w, S' w → S w) : ∀ (fuel : Nat) (listed : Array Bool) (a : Act) (w : World), wpAnyL P ops Q D S' fuel listed a w → wpAnyL P ops Q D S fuel listed a w
  | 0, _, _, _, h => h
  | fuel + 1, _, _, _, h => ⟨h.1, fun i hi => wpOp_mono (fun a' w' h' => by
      by_cases hd : i ∈ D
      · rw [if_pos hd] at h' ⊢; exact h'
      · rw [if_neg hd] at h' ⊢; exact ⟨hS _ h'.1, wpAnyL_weaken hS fuel _ a' w' h'.2⟩) (h.2 i hi)⟩

theorem wpAnyL_done {listed : Array Bool} {a : Act} {w : World} (hr : Region.ready .any ops listed = []) (h : Q .normal a w) : ∀ fuel, wpAnyL P ops Q D S fuel listed a w
  | 0 => ⟨hr, h⟩
  | _ + 1 => ⟨fun _ => h, by rw [hr]; simp⟩

theorem wait_not_ready {i c : Nat} {C : List Nat} {listed : Array Bool} (hC : ∀ c ∈ C, listed.getD c true = false ∧ ∃ oc, ops[c]? = some oc ∧ ∃ e ∈ oc.after, Region.binds .any e = true ∧ (e.on = i ∨ e.on ∈ C)) (hi : listed.getD i true = false)
    (hc : c ∈ C) : c ∉ Region.ready .any ops listed := fun hr => by
  obtain ⟨_, oc, ho, e, he, hb, hon⟩ := hC c hc
  obtain ⟨_, o, ho', hall⟩ := mem_ready.1 hr
  rw [ho] at ho'
  obtain rfl := Option.some.inj ho'
  have h1 := hall e he hb
  have h2 : listed.getD e.on true = false := by
    rcases hon with rfl | h
    · exact hi
    · exact (hC _ h).1
  rcases Nat.lt_or_ge e.on listed.size with h' | h'
  · simp [h'] at h1 h2; rw [h2] at h1; cases h1
  · simp [Array.getElem?_eq_none h'] at h1

theorem wpAnyL_first {i : Nat} {oi : Oper} {v : Value} {C : List Nat} (hi : ops[i]? = some oi) (hsel : ∀ (j : Nat) (o : Oper) cs b, ops[j]? = some o → o.op ≠ .select cs b) (hQ : ∀ c a w, Q (.panic c) (a.put oi.dst v) w → Q (.panic c) a w) :
    ∀ (fuel : Nat) (listed : Array Bool) (a : Act) (w : World),
      (∀ j oj, ops[j]? = some oj → j ≠ i → listed.getD j true = false → (∀ e ∈ oj.after, Region.binds .any e = true → e.on ≠ i) → oi.apart ops oj = true) →
      (∀ c ∈ C, listed.getD c true = false ∧ ∃ oc, ops[c]? = some oc ∧ ∃ e ∈ oc.after, Region.binds .any e = true ∧ (e.on = i ∨ e.on ∈ C)) → (∀ j ∈ D, listed.getD j true = false → j ∈ C) → i ∉ D →
      i ∈ Region.ready .any ops listed → YieldsIf P ops S oi v a → S w →
      wpAnyL P ops Q D S fuel (listed.setIfInBounds i true) (a.put oi.dst v) w → wpAnyL P ops Q D S (fuel + 1) listed a w := by
  intro fuel
  induction fuel with
  | zero =>
    intro listed a w _ _ _ hiD hr hy hS H
    refine ⟨fun h => (by rw [h] at hr; cases hr), fun j hj => ?_⟩
    by_cases hji : j = i
    · subst hji; exact hy.wpOp hi hS (by rw [if_neg hiD]; exact ⟨hS, H⟩)
    · have := ready_mono hj hji
      rw [H.1] at this
      cases this
  | succ fuel ih =>
    intro listed a w hfree hC hD hiD hr hy hS H
    refine ⟨fun h => (by rw [h] at hr; cases hr), fun j hj => ?_⟩
    by_cases hji : j = i
    · subst hji; exact hy.wpOp hi hS (by rw [if_neg hiD]; exact ⟨hS, H⟩)
    · have h1 := H.2 j (ready_mono hj hji)
      obtain ⟨hjun, oj, hoj, hall⟩ := mem_ready.1 hj
      have hiun := (mem_ready.1 hr).1
      have hjC : j ∉ C := fun h => wait_not_ready hC hiun h hj
      have hjD : j ∉ D := fun h => hjC (hD j h hjun)
      simp only [if_neg hjD] at h1 ⊢
      have hnot : ∀ e ∈ oj.after, Region.binds .any e = true → e.on ≠ i := fun e he hb heq => by
        have h1 := hall e he hb
        rw [heq] at h1
        rcases Nat.lt_or_ge i listed.size with h' | h'
        · simp [h'] at hiun h1; rw [hiun] at h1; cases h1
        · simp [Array.getElem?_eq_none h'] at h1
      have h2 := wpOp_putIf hoj (hfree j oj hoj hji hjun hnot) (fun cs b => hsel i oi cs b hi) (fun cs b => hsel j oj cs b hoj) hQ hy h1
      have hfree' : ∀ k ok, ops[k]? = some ok → k ≠ i → (listed.setIfInBounds j true).getD k true = false →
          (∀ e ∈ ok.after, Region.binds .any e = true → e.on ≠ i) → oi.apart ops ok = true := fun k ok hk hki hun hno => by
        refine hfree k ok hk hki ?_ hno
        by_cases hjk : j = k
        · subst hjk; exact hjun
        · rw [getD_set_ne true hjk] at hun; exact hun
      refine wpOp_mono (fun a' w' h3 => ⟨h3.2.1, ih (listed.setIfInBounds j true) a' w' hfree' (fun c hc => ⟨by rw [getD_set_ne true (fun h => hjC (by rw [h]; exact hc))]; exact (hC c hc).1, (hC c hc).2⟩) (fun k hk hun => hD k hk ?_) hiD
        (ready_mono hr (Ne.symm hji)) h3.1 h3.2.1 ?_⟩) h2
      · by_cases hjk : j = k
        · subst hjk; exact absurd hk hjD
        · rw [getD_set_ne true hjk] at hun; exact hun
      · rw [Array.setIfInBounds_comm _ _ hji]
        exact h3.2.2

/-- What is the same in every world may be taken early, whatever comes late. -/
theorem wpAnyL_firstY {i : Nat} {oi : Oper} {v : Value} (hi : ops[i]? = some oi) (hsel : ∀ (j : Nat) (o : Oper) cs b, ops[j]? = some o → o.op ≠ .select cs b) (hQ : ∀ c a w, Q (.panic c) (a.put oi.dst v) w → Q (.panic c) a w) :
    ∀ (fuel : Nat) (listed : Array Bool) (a : Act) (w : World),
      (∀ j oj, ops[j]? = some oj → j ≠ i → listed.getD j true = false → (∀ e ∈ oj.after, Region.binds .any e = true → e.on ≠ i) → oi.apart ops oj = true) → i ∉ D →
      i ∈ Region.ready .any ops listed → YieldsIf P ops (fun _ => True) oi v a → S w →
      wpAnyL P ops Q D S fuel (listed.setIfInBounds i true) (a.put oi.dst v) w → wpAnyL P ops Q D S (fuel + 1) listed a w := by
  intro fuel
  induction fuel with
  | zero =>
    intro listed a w _ hiD hr hy hS H
    refine ⟨fun h => (by rw [h] at hr; cases hr), fun j hj => ?_⟩
    by_cases hji : j = i
    · subst hji; exact hy.wpOp hi trivial (by rw [if_neg hiD]; exact ⟨hS, H⟩)
    · have := ready_mono hj hji
      rw [H.1] at this
      cases this
  | succ fuel ih =>
    intro listed a w hfree hiD hr hy hS H
    refine ⟨fun h => (by rw [h] at hr; cases hr), fun j hj => ?_⟩
    by_cases hji : j = i
    · subst hji; exact hy.wpOp hi trivial (by rw [if_neg hiD]; exact ⟨hS, H⟩)
    · have h1 := H.2 j (ready_mono hj hji)
      obtain ⟨hjun, oj, hoj, hall⟩ := mem_ready.1 hj
      have hiun := (mem_ready.1 hr).1
      have hnot : ∀ e ∈ oj.after, Region.binds .any e = true → e.on ≠ i := fun e he hb heq => by
        have h1 := hall e he hb
        rw [heq] at h1
        rcases Nat.lt_or_ge i listed.size with h' | h'
        · simp [h'] at hiun h1; rw [hiun] at h1; cases h1
        · simp [Array.getElem?_eq_none h'] at h1
      have hfree' : ∀ k ok, ops[k]? = some ok → k ≠ i → (listed.setIfInBounds j true).getD k true = false →
          (∀ e ∈ ok.after, Region.binds .any e = true → e.on ≠ i) → oi.apart ops ok = true := fun k ok hk hki hun hno => by
        refine hfree k ok hk hki ?_ hno
        by_cases hjk : j = k
        · subst hjk; exact hjun
        · rw [getD_set_ne true hjk] at hun; exact hun
      have h2 := wpOp_putIf hoj (hfree j oj hoj hji hjun hnot) (fun cs b => hsel i oi cs b hi) (fun cs b => hsel j oj cs b hoj) hQ hy h1
      by_cases hjD : j ∈ D
      · simp only [if_pos hjD] at h2 ⊢
        refine wpOp_mono (fun a' w' h3 => wpAny_first hi hsel hQ fuel (listed.setIfInBounds j true) a' w' hfree' (ready_mono hr (Ne.symm hji)) (h3.1.imp (fun ⟨k1, k2⟩ => ⟨k1, fun w => k2 w trivial⟩) id) ?_) h2
        rw [Array.setIfInBounds_comm _ _ hji]
        exact h3.2
      · simp only [if_neg hjD] at h2 ⊢
        refine wpOp_mono (fun a' w' h3 => ⟨h3.2.1, ih (listed.setIfInBounds j true) a' w' hfree' hiD (ready_mono hr (Ne.symm hji)) h3.1 h3.2.1 ?_⟩) h2
        rw [Array.setIfInBounds_comm _ _ hji]
        exact h3.2.2

theorem waitOk_spec {listed : Array Bool} {i : Nat} {C : List Nat} (h : waitOk ops listed i C = true) : ∀ c ∈ C, listed.getD c true = false ∧ ∃ oc, ops[c]? = some oc ∧ ∃ e ∈ oc.after, Region.binds .any e = true ∧ (e.on = i ∨ e.on ∈ C) := by
  intro c hc
  unfold waitOk at h
  rw [List.all_eq_true] at h
  have := h c hc
  simp only [Bool.and_eq_true, Bool.not_eq_true'] at this
  refine ⟨this.1, ?_⟩
  have h2 := this.2
  cases ho : ops[c]? with
  | none => rw [ho] at h2; simp at h2
  | some oc =>
    rw [ho] at h2
    simp only [Option.map_some, Option.getD_some, List.any_eq_true, Bool.and_eq_true, Bool.or_eq_true, beq_iff_eq, List.contains_eq_mem, decide_eq_true_eq] at h2
    obtain ⟨e, he, hb, hon⟩ := h2
    exact ⟨oc, rfl, e, by simpa using he, hb, hon⟩

theorem wpAnyL_take {i : Nat} {oi : Oper} {v : Value} {fuel : Nat} {listed : Array Bool} {a : Act} {w : World} (hi : ops[i]? = some oi) (hs : Region.noSelect ops = true) (hf : Region.free .any ops listed i = true) (hr : (Region.ready .any ops listed).contains i = true)
    (hl : (((ops[i]?).map fun o => memFree o.op).getD false || lateFree ops D listed i) = true) (hiD : i ∉ D) (hQ : ∀ c a w, Q (.panic c) (a.put oi.dst v) w → Q (.panic c) a w) (hy' : YieldsIf P ops (fun w => memFree oi.op = true ∨ S w) oi v a) (hS : S w)
    (h : wpAnyL P ops Q D S fuel (listed.setIfInBounds i true) (a.put oi.dst v) w) : wpAnyL P ops Q D S (fuel + 1) listed a w := by
  rw [hi] at hl
  simp only [Option.map_some, Option.getD_some, Bool.or_eq_true] at hl
  rcases hl with hm | hl
  · exact wpAnyL_firstY hi (Region.noSelect_spec hs) hQ fuel listed a w (Region.free_spec hi hf) hiD (by simpa using hr) (hy'.imp (fun ⟨k1, k2⟩ => ⟨k1, fun w _ => k2 w (.inl hm)⟩) id) hS h
  have hy : YieldsIf P ops S oi v a := hy'.imp (fun ⟨k1, k2⟩ => ⟨k1, fun w hw => k2 w (.inr hw)⟩) id
  cases D with
  | nil => exact wpAnyL_first (C := []) hi (Region.noSelect_spec hs) hQ fuel listed a w (Region.free_spec hi hf) (by simp) (by simp) hiD (by simpa using hr) hy hS h
  | cons d D =>
    simp only [lateFree, Bool.and_eq_true] at hl
    refine wpAnyL_first (C := waiters ops listed i ops.size []) hi (Region.noSelect_spec hs) hQ fuel listed a w (Region.free_spec hi hf) (waitOk_spec hl.1) (fun j hj hun => ?_) hiD (by simpa using hr) hy hS h
    have := hl.2
    rw [List.all_eq_true] at this
    have := this j hj
    simpa [hun] using this
end

section
variable {P : Program} {G : Nat → Option (List LV)} {H : Nat → Bool} {X X' : Ctx} {σ : List Blk} {R : RowsA} {n : Nat} {env : Env} {a : Act} {ops : Array Oper}

theorem earlyV_sound (hI : Inv G X σ R) (he : EnvOk X n env a) {o : Oper} {K : AV → Prop} (h : earlyV P G H env σ K o.op) :
    ∃ v r, K v ∧ RepV X v r ∧ ∀ w', (memFree o.op = true ∨ Agree H X w') → (execOp a.eval o).run P w' = .ok (.value r) w' := by
  unfold earlyV at h
  cases hpv : pv P G H env σ o.op with
  | some Sv =>
    obtain ⟨S, v⟩ := Sv
    rw [hpv] at h
    obtain ⟨r, h1, h2⟩ := pv_sound hI he hpv h.1
    exact ⟨v, r, h.2, h1, h2⟩
  | none =>
    rw [hpv] at h
    simp only at h
    split at h
    · rename_i t x i hop
      split at h
      · rename_i own sz e k m hx hi
        split at h
        · rename_i et het
          obtain ⟨hsz, hpos, ⟨h0, hlt⟩, hK⟩ := h
          obtain ⟨ad, cap, b, o', vf, hval, h1, h2, h3, h4, h5, h6⟩ := slice_form (rep_slice (opA_sound hI he hx))
          have hix := repL_int (opA_sound hI he hi)
          obtain ⟨ie, hie, his⟩ := info_of_sz (P := P) (t := et) (by omega)
          have had : ad = some ⟨b, o', none⟩ := by
            rcases h4 with rfl | h4
            · simp at hlt
            · exact h4
          refine ⟨_, .pointer (some ⟨b, o' + m.toNat * sz, none⟩), hK, ⟨b, o' + m.toNat * sz, by simp, fun j y hj => ?_⟩, fun w' _ => ?_⟩
          · have hlen := h3 e[m.toNat] (List.getElem_mem hlt)
            have hjs : j < sz := by rw [← hlen]; exact (List.getElem?_eq_some_iff.1 hj).1
            exact ⟨vf m.toNat j, by rw [Nat.add_assoc]; exact h5 m.toNat j hlt hjs, h6 m.toNat j _ y (List.getElem?_eq_getElem hlt) hj⟩
          · have hm2 : m < (e.length : Int) := by omega
            simp [execOp, hop, Instr.indexAt, hix, hval, had, asIntOf, run_underlying (elemT_spec het), h0, hm2, run_sizeT hie, his, hsz, add_lit]
        · cases h
      · cases h
    · cases h

theorem early_sound (hI : Inv G X σ R) (he : EnvOk X n env a) {o : Oper} {K : AV → Prop} (h : early P G H ops env σ o K) : ∃ v r, K v ∧ RepV X v r ∧ YieldsIf P ops (fun w => memFree o.op = true ∨ Agree H X w) o r a := by
  unfold early at h
  cases hg : o.guard with
  | none =>
    rw [hg] at h
    obtain ⟨v, r, h1, h2, h3⟩ := earlyV_sound hI he h
    exact ⟨v, r, h1, h2, .inl ⟨by simp [Region.wanted, hg], h3⟩⟩
  | some jw =>
    obtain ⟨j, want⟩ := jw
    rw [hg] at h
    simp only at h
    cases hgv : gval ops env j want with
    | none => rw [hgv] at h; exact h.elim
    | some g =>
      rw [hgv] at h
      have hw : Region.wanted o (yielded ops a.tmps) = g := by simp only [Region.wanted, hg]; exact gval_sound he hgv
      cases hpv : pv P G H env σ o.op with
      | some Sv =>
        obtain ⟨S, v⟩ := Sv
        rw [hpv] at h
        simp only at h
        cases hm : mkIfb g v with
        | none => rw [hm] at h; exact h.elim
        | some u =>
          rw [hm] at h
          cases g with
          | true =>
            obtain ⟨r, h1, h2⟩ := pv_sound hI he hpv (h.1 rfl)
            exact ⟨u, r, h.2, mkIfb_true hm rfl h1, .inl ⟨hw, h2⟩⟩
          | false => exact ⟨u, Go.undef, h.2, mkIfb_false hm rfl, .inr ⟨hw, rfl⟩⟩
      | none =>
        rw [hpv] at h
        cases g with
        | true =>
          obtain ⟨v, r, h1, h2, h3⟩ := earlyV_sound hI he (h.1 rfl)
          rcases h1 with h1 | ⟨hfl, h1⟩
          · exact ⟨v, r, h1, h2, .inl ⟨hw, h3⟩⟩
          · exact ⟨_, r, h1, flat_ifb hfl h2, .inl ⟨hw, h3⟩⟩
        | false =>
          obtain ⟨u, h1, h2⟩ := h.2 rfl
          exact ⟨u, Go.undef, h2, no_undef h1, .inr ⟨hw, rfl⟩⟩

theorem Agree.later (hI : Inv G X σ R) (e : Evo X X') (hh : HeldEq H X X') {w : World} (h : Agree H X' w) : Agree H X w :=
  ⟨fun b o u hr => h.1 b o u (e.rd hI hr), fun i b hb hi => (h.2 i b (e.muGet hb) hi).trans (hh i b hb hi)⟩

theorem ready_contains {i : Nat} {D : List Nat} (h : (!D.contains i) = true) : i ∉ D := by simpa using h

theorem arun_sound (hd : dstsOk n ops = true) (hs : Region.noSelect ops = true) {K : Env → List Blk → RowsA → Prop} {Q : Exit → Act → World → Prop} (hQ : ∀ c a w, ¬ Q (.panic c) a w) :
    ∀ (p : Plan) (D cov : List Nat) (f : Nat) (listed : Array Bool) (X : Ctx) (σ : List Blk) (R : RowsA) (env : Env) (a : Act), Inv G X σ R → EnvOk X n env a → planOk ops p D cov f listed = true → arun P G H ops K p env σ R →
      (∀ X' env' σ' R' a', K env' σ' R' → Evo X X' → Inv G X' σ' R' → EnvOk X' n env' a' → Q .normal a' X'.w) →
      (∀ f', f = f' + 1 → ∀ i ∈ cov, i ∉ D ∧ wpOp P ops Q i (fun a' w' => Agree H X w' ∧ wpAnyL P ops Q D (Agree H X) f' (listed.setIfInBounds i true) a' w') a X.w) → (∀ i ∈ latesOf p, i ∈ D) →
      wpAnyL P ops Q D (Agree H X) f listed a X.w
  | .done, D, cov, f, listed, X, σ, R, env, a, hI, he, hp, h, hK, _, _ => by
    have hr : Region.ready .any ops listed = [] := by cases f <;> simpa [planOk, List.isEmpty_iff] using hp
    exact wpAnyL_done hr (hK X env σ R a h (Evo.refl hI) hI he) _
  | .early i p, D, cov, 0, listed, X, σ, R, env, a, hI, he, hp, h, hK, _, _ => by simp [planOk] at hp
  | .last i p, D, cov, 0, listed, X, σ, R, env, a, hI, he, hp, h, hK, _, _ => by simp [planOk] at hp
  | .fork i p q, D, cov, 0, listed, X, σ, R, env, a, hI, he, hp, h, hK, _, _ => by simp [planOk] at hp
  | .late i p, D, cov, 0, listed, X, σ, R, env, a, hI, he, hp, h, hK, _, _ => by simp [planOk] at hp
  | .early i p, D, cov, f + 1, listed, X, σ, R, env, a, hI, he, hp, h, hK, _, hlt => by
    simp only [planOk, Bool.and_eq_true] at hp
    obtain ⟨⟨⟨⟨⟨_, h1⟩, h2⟩, h0⟩, h3⟩, h4⟩ := hp
    have hiD := ready_contains h0
    simp only [arun] at h
    split at h
    · rename_i o ho
      obtain ⟨v, r, k1, k2, k3⟩ := early_sound hI he h
      refine wpAnyL_take ho hs h1 h2 (by simpa using h3) hiD (fun c a w hq => absurd hq (hQ c _ _)) k3 Agree.here ?_
      exact arun_sound hd hs hQ p D [] f _ X σ R _ _ hI (he.put hI (Evo.refl hI) (dstsOk_spec hd ho) k2) h4 k1 hK (fun _ _ _ hi => by cases hi) hlt
    · exact h.elim
  | .last i p, D, cov, f + 1, listed, X, σ, R, env, a, hI, he, hp, h, hK, hcov, hlt => by
    simp only [planOk, Bool.and_eq_true] at hp
    obtain ⟨⟨⟨h0, h1⟩, h2⟩, h3⟩ := hp
    have hiD := ready_contains h0
    simp only [arun] at h
    split at h
    · rename_i o ho
      have hstep : wpOp P ops Q i (fun a' w' => Agree H X w' ∧ wpAnyL P ops Q D (Agree H X) f (listed.setIfInBounds i true) a' w') a X.w := by
        refine astep_sound hI he ho h (fun v r σ' R' X' hK' hE hH hI' hr => ?_)
        refine ⟨Agree.later hI hE hH Agree.here, wpAnyL_weaken (fun w hw => Agree.later hI hE hH hw) _ _ _ _ ?_⟩
        exact arun_sound hd hs hQ p D [] f _ X' σ' R' _ _ hI' (he.put hI hE (dstsOk_spec hd ho) hr) h3 hK' (fun X'' env'' σ'' R'' a'' k1 k2 k3 k4 => hK X'' env'' σ'' R'' a'' k1 (hE.trans hI k2) k3 k4) (fun _ _ _ hi => by cases hi) hlt
      refine ⟨fun hnil => by rw [hnil] at h2; simp at h2, fun j hj => ?_⟩
      rw [List.all_eq_true] at h1
      have hmem : j ∈ i :: cov := by simpa using h1 j hj
      rcases List.mem_cons.1 hmem with rfl | hm
      · simp only [if_neg hiD]; exact hstep
      · simp only [if_neg (hcov f rfl j hm).1]; exact (hcov f rfl j hm).2
    · exact h.elim
  | .fork i p q, D, cov, f + 1, listed, X, σ, R, env, a, hI, he, hp, h, hK, hcov, hlt => by
    simp only [planOk, Bool.and_eq_true] at hp
    obtain ⟨⟨h0, h1⟩, h2⟩ := hp
    have hiD := ready_contains h0
    simp only [arun] at h
    obtain ⟨h3, h4⟩ := h
    split at h3
    · rename_i o ho
      have hstep : wpOp P ops Q i (fun a' w' => Agree H X w' ∧ wpAnyL P ops Q D (Agree H X) f (listed.setIfInBounds i true) a' w') a X.w := by
        refine astep_sound hI he ho h3 (fun v r σ' R' X' hK' hE hH hI' hr => ?_)
        refine ⟨Agree.later hI hE hH Agree.here, wpAnyL_weaken (fun w hw => Agree.later hI hE hH hw) _ _ _ _ ?_⟩
        exact arun_sound hd hs hQ p D [] f _ X' σ' R' _ _ hI' (he.put hI hE (dstsOk_spec hd ho) hr) h1 hK' (fun X'' env'' σ'' R'' a'' k1 k2 k3 k4 => hK X'' env'' σ'' R'' a'' k1 (hE.trans hI k2) k3 k4) (fun _ _ _ hi => by cases hi) (fun j hj => hlt j (List.mem_append_left _ hj))
      refine arun_sound hd hs hQ q D (i :: cov) (f + 1) listed X σ R env a hI he h2 h4 hK (fun f' hf j hj => ?_) (fun j hj => hlt j (List.mem_append_right _ hj))
      obtain rfl : f = f' := by omega
      rcases List.mem_cons.1 hj with rfl | hm
      · exact ⟨hiD, hstep⟩
      · exact hcov f rfl j hm
    · exact h3.elim
  | .late i p, D, cov, f + 1, listed, X, σ, R, env, a, hI, he, hp, h, hK, hcov, hlt => by
    simp only [planOk, Bool.and_eq_true] at hp
    obtain ⟨⟨⟨h0, h1⟩, h2⟩, h3⟩ := hp
    have hiD : i ∈ D := by simpa using h0
    simp only [arun] at h
    split at h
    · rename_i o ho
      have hstep : wpOp P ops Q i (fun a' w' => wpAny P .any ops Q f (listed.setIfInBounds i true) a' w') a X.w := by
        refine astep_sound hI he ho h (fun v r σ' R' X' hK' hE hH hI' hr => ?_)
        refine wpAny_of_late (D := latesOf p) (S := Agree H X') _ _ _ _ ?_
        exact arun_sound hd hs hQ p (latesOf p) [] f _ X' σ' R' _ _ hI' (he.put hI hE (dstsOk_spec hd ho) hr) h3 hK' (fun X'' env'' σ'' R'' a'' k1 k2 k3 k4 => hK X'' env'' σ'' R'' a'' k1 (hE.trans hI k2) k3 k4) (fun _ _ _ hi => by cases hi) (fun _ h => h)
      refine ⟨fun hnil => by rw [hnil] at h2; simp at h2, fun j hj => ?_⟩
      rw [List.all_eq_true] at h1
      have hmem : j ∈ i :: cov := by simpa using h1 j hj
      rcases List.mem_cons.1 hmem with rfl | hm
      · simp only [if_pos hiD]; exact hstep
      · simp only [if_neg (hcov f rfl j hm).1]; exact (hcov f rfl j hm).2
    · exact h.elim

theorem awp_drawP {k0 m0 : Nat} {Q : Exit → Env → List Blk → RowsA → Prop} {id : Nat} (hm : P.follows .mixedOrders = true) (hd : dstsOk n ops = true) (hs : Region.noSelect ops = true) (H : Nat → Bool) (plan : Plan)
    (hp : planOk ops plan (latesOf plan) [] ops.size (Array.replicate ops.size false) = true) (hq : ∀ c env σ R, ¬ Q (.panic c) env σ R)
    (h : arun P G H ops (fun env σ R => Q .normal env σ R) plan env σ R) : AWP P G n k0 m0 (.region id ops true) Q env σ R := by
  rintro X0 X a ⟨σ0, R0, hI0⟩ _ _ hE0 hI he
  obtain ⟨hE, hI'⟩ := hI.drew
  have he' : EnvOk { X with w := X.w.drew } n env a := ⟨he.1, he.2.1, fun t v ht => let ⟨r, h1, h2⟩ := he.2.2 t v ht; ⟨r, h1, hE.repV hI h2⟩⟩
  refine wp_region_any hm (wpAny_of_late (D := latesOf plan) (S := Agree H { X with w := X.w.drew }) _ _ _ _ ?_)
  exact arun_sound (Q := fun e a' w' => ∃ X' env' σ' R', Q e env' σ' R' ∧ X'.w = w' ∧ Evo X0 X' ∧ Inv G X' σ' R' ∧ EnvOk X' n env' a') hd hs (fun c a w ⟨_, env', σ', R', hq', _⟩ => hq c env' σ' R' hq') plan (latesOf plan) [] ops.size _ { X with w := X.w.drew } σ R env a hI' he' hp h
    (fun X' env' σ' R' a' k1 k2 k3 k4 => ⟨X', env', σ', R', k1, rfl, (hE0.trans hI0 hE).trans hI0 k2, k3, k4⟩) (fun _ _ _ hi => by cases hi) (fun _ h => h)
end
end Go.Abs
