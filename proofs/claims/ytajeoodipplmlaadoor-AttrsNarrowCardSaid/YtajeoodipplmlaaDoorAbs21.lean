/-
  RUNNING CODE OVER ABSTRACT VALUES, 3: orders that are open, code, functions; 'acx_of_run': what the run of a function says is what the function comes to.
-/
import Derived.Test.YtajeoodipplmlaaDoorAbs20
set_option linter.all false
namespace Go.Abs
open Go Go.RowKit

/-! ### What is taken early -/
def ldOf (G : Nat → Option (List LV)) (env : Env) : Op → List Nat
  | .load _ x => match opU G env x with
    | some (_, .l (.ptr i _)) => [i]
    | _ => []
  | _ => []
def iearlyV (P : Program) (G : Nat → Option (List LV)) (env : Env) (σ : List Blk) (op : Op) : Option AV :=
  match pv P G (fun _ => true) env σ op with
  | some (_, v) => cond (okPv P G env op) (some v) none
  | none => match op with
    | .indexAddr t x i => (match opA G env x, opA G env i with
      | some (.l (.slice _ sz e)), some (.l (.int _ n)) => (match elemT P t, e[n.toNat]? with
        | some et, some c => cond (szT P et == sz && Nat.blt 0 sz && decide (0 ≤ n)) (some (.l (.eptr c 0))) none
        | _, _ => none)
      | _, _ => none)
    | _ => none
def iearly (P : Program) (G : Nat → Option (List LV)) (ops : Array Oper) (env : Env) (σ : List Blk) (o : Oper) : Option AV :=
  match o.guard with
  | none => iearlyV P G env σ o.op
  | some (j, want) => match gval ops env j want with
    | none => none
    | some false => some (.ifb false (.l (.bool false)))
    | some true => match pv P G (fun _ => true) env σ o.op with
      | some (_, v) => (match mkIfb true v with
        | some u => cond (okPv P G env o.op) (some u) none
        | none => none)
      | none => iearlyV P G env σ o.op

section
variable {P : Program} {G : Nat → Option (List LV)} {H : Nat → Bool} {ops : Array Oper} {env : Env} {σ : List Blk}

theorem loadV_H {t : TypeId} {v : AV} (h : ∀ i off, v = .l (.ptr i off) → H i = true) : loadV P H t σ v = loadV P (fun _ => true) t σ v := by
  unfold loadV
  split
  · rename_i i off
    rw [h i off rfl]
  · rfl
  · rfl
theorem pv_H {op : Op} (h : ∀ i ∈ ldOf G env op, H i = true) : pv P G H env σ op = pv P G (fun _ => true) env σ op := by
  cases op <;> try rfl
  case makeFunc fn a b => cases fn <;> rfl
  case slice t x lo hi mx => cases mx <;> rfl
  case load t x =>
    simp only [pv]
    simp only [ldOf] at h
    cases hu : opU G env x with
    | none => rfl
    | some gv =>
      obtain ⟨g, v⟩ := gv
      rw [hu] at h
      simp only
      rw [loadV_H]
      rintro i off rfl
      exact h i (by simp)

theorem iearlyV_ok {op : Op} {v : AV} (h : iearlyV P G env σ op = some v) (hl : ∀ i ∈ ldOf G env op, H i = true) : earlyV P G H env σ (fun u => u = v) op := by
  unfold iearlyV at h
  unfold earlyV
  rw [pv_H hl]
  cases hp : pv P G (fun _ => true) env σ op with
  | some Sv =>
    obtain ⟨S, u⟩ := Sv
    rw [hp] at h
    obtain ⟨h1, h2⟩ := cond_some h
    exact ⟨okPv_ok hp h1, Option.some.inj h2⟩
  | none =>
    rw [hp] at h
    simp only at h ⊢
    split at h
    · rename_i t x i
      simp only
      split at h
      · rename_i own sz e k n hx hi
        split at h
        · rename_i et c het hc
          obtain ⟨h1, h2⟩ := cond_some h
          simp only [Bool.and_eq_true, beq_iff_eq, Nat.blt_eq, decide_eq_true_eq] at h1
          obtain ⟨hlt, hcc⟩ := List.getElem?_eq_some_iff.1 hc
          simp only [hx, hi, het]
          exact ⟨h1.1.1, h1.1.2, ⟨h1.2, hlt⟩, by rw [hcc]; exact Option.some.inj h2⟩
        · cases h
      · cases h
    · cases h

theorem iearly_sound {X : Ctx} {n : Nat} {R : RowsA} {a : Act} (hI : Inv G X σ R) (he : EnvOk X n env a) {o : Oper} {v : AV} (h : iearly P G ops env σ o = some v) (hl : ∀ i ∈ ldOf G env o.op, H i = true) : ∃ u r, u = v ∧ RepV X u r ∧ YieldsIf P ops (fun w => memFree o.op = true ∨ Agree H X w) o r a := by
  unfold iearly at h
  cases hg : o.guard with
  | none =>
    rw [hg] at h
    exact early_sound (K := fun u => u = v) hI he (by unfold early; rw [hg]; exact iearlyV_ok h hl)
  | some jw =>
    obtain ⟨j, want⟩ := jw
    rw [hg] at h
    simp only at h
    cases hv : gval ops env j want with
    | none => rw [hv] at h; cases h
    | some g =>
      rw [hv] at h
      cases g with
      | false =>
        simp only [Option.some.injEq] at h
        subst h
        have hw : Region.wanted o (yielded ops a.tmps) = false := by simp only [Region.wanted, hg]; exact gval_sound he hv
        exact ⟨_, Go.undef, rfl, no_undef rfl, .inr ⟨hw, rfl⟩⟩
      | true =>
        simp only at h
        refine early_sound (K := fun u => u = v) hI he ?_
        unfold early
        simp only [hg, hv]
        rw [pv_H hl]
        cases hp : pv P G (fun _ => true) env σ o.op with
        | some Sv =>
          obtain ⟨S, u⟩ := Sv
          rw [hp] at h
          simp only at h ⊢
          cases hm : mkIfb true u with
          | none => rw [hm] at h; cases h
          | some q =>
            rw [hm] at h
            simp only at h ⊢
            obtain ⟨h1, h2⟩ := cond_some h
            exact ⟨fun _ => okPv_ok hp h1, Option.some.inj h2⟩
        | none =>
          rw [hp] at h
          simp only at h ⊢
          exact ⟨fun _ => earlyV_mono (fun _ h => .inl h) (iearlyV_ok h hl), fun h => by cases h⟩
end

/-! ### An order -/
def takeable : Op → Bool
  | .binOp _ _ _ (.const (.slice none 0 0)) _ => false
  | .alloc _ => false
  | .box .. => false
  | .store .. => false
  | .buildSlice .. => false
  | .call c => match c.callee with
    | .builtin .append => false
    | .builtin .copy => false
    | .builtin _ => true
    | _ => false
  | _ => true
/-- An order: what may be taken early, is; another comes late, if it waits for all that was taken since the one that came late before it. -/
def mkPlan (ops : Array Oper) : Nat → List (Nat × Array Bool) → Array Bool → Plan
  | 0, _, _ => .done
  | f + 1, taken, listed => match Region.ready .any ops listed with
    | [] => .done
    | i :: r => match (i :: r).find? fun i => (match ops[i]? with | some o => takeable o.op | none => false) && Region.free .any ops listed i with
      | some i => .early i (mkPlan ops f ((i, listed) :: taken) (listed.setIfInBounds i true))
      | none => cond (taken.all fun t => ((ops[t.1]?).map fun o => memFree o.op).getD false || lateFree ops [i] t.2 t.1) (.late i (mkPlan ops f [] (listed.setIfInBounds i true))) (.last i (mkPlan ops f taken (listed.setIfInBounds i true)))
def orderOf (ops : Array Oper) : Plan := mkPlan ops ops.size [] (Array.replicate ops.size false)
def orderOk (ops : Array Oper) : Bool := planOk ops (orderOf ops) (latesOf (orderOf ops)) [] ops.size (Array.replicate ops.size false)
/-- What is written by what does not come late; what is loaded early; all that is written. -/
def idraw (P : Program) (G : Nat → Option (List LV)) (rec : Rec) (ops : Array Oper) : Plan → Env → List Blk → RowsA → Option (Env × List Blk × RowsA × List Nat × List Nat × List Nat)
  | .done, env, σ, R => some (env, σ, R, [], [], [])
  | .early i p, env, σ, R => match ops[i]? with
    | some o => (match iearly P G ops env σ o with
      | some v => (match idraw P G rec ops p (envPut o.dst v env) σ R with
        | some (e, s, r, T, E, A) => some (e, s, r, T, uni (ldOf G env o.op) E, A)
        | none => none)
      | none => none)
    | none => none
  | .last i p, env, σ, R => match ops[i]? with
    | some o => (match istep P G rec ops env σ R o with
      | some (v, σ', R', T) => (match idraw P G rec ops p (envPut o.dst v env) σ' R' with
        | some (e, s, r, T', E, A) => some (e, s, r, uni T T', E, uni T A)
        | none => none)
      | none => none)
    | none => none
  | .late i p, env, σ, R => match ops[i]? with
    | some o => (match istep P G rec ops env σ R o with
      | some (v, σ', R', T) => (match idraw P G rec ops p (envPut o.dst v env) σ' R' with
        | some (e, s, r, T', E, A) => cond (E.all fun i => !T'.contains i) (some (e, s, r, [], [], uni T A)) none
        | none => none)
      | none => none)
    | none => none
  | .fork _ _ _, _, _, _ => none

section
variable {P : Program} {G : Nat → Option (List LV)} {rec : Rec} {ops : Array Oper} {n : Nat}

theorem idraw_ok (hrec : RecOk P G rec) (hd : dstsOk n ops = true) (hs : Region.noSelect ops = true) {Q : Exit → Act → World → Prop} (hQ : ∀ c a w, ¬ Q (.panic c) a w) :
    ∀ (p : Plan) (D : List Nat) (H : Nat → Bool) (f : Nat) (listed : Array Bool) (X : Ctx) (σ : List Blk) (R : RowsA) (env : Env) (a : Act) (env' : Env) (σ' : List Blk) (R' : RowsA) (T E A : List Nat), planOk ops p D [] f listed = true → Inv G X σ R → EnvOk X n env a →
      idraw P G rec ops p env σ R = some (env', σ', R', T, E, A) → (∀ i ∈ E, H i = true) → (∀ i ∈ T, H i = false) → (∀ i ∈ latesOf p, i ∈ D) →
      (∀ X' a', Evo X X' → HeldEq (hOf A) X X' → Inv G X' σ' R' → EnvOk X' n env' a' → Q .normal a' X'.w) → wpAnyL P ops Q D (Agree H X) f listed a X.w
  | .done, D, H, f, listed, X, σ, R, env, a, env', σ', R', T, E, A, hp, hI, he, h, hE, hT, _, hK => by
    simp only [idraw, Option.some.injEq, Prod.mk.injEq] at h
    obtain ⟨rfl, rfl, rfl, rfl, rfl, rfl⟩ := h
    have hr : Region.ready .any ops listed = [] := by cases f <;> simpa [planOk, List.isEmpty_iff] using hp
    exact wpAnyL_done hr (hK X a (Evo.refl hI) HeldEq.refl' hI he) _
  | .early i p, D, H, 0, listed, X, σ, R, env, a, env', σ', R', T, E, A, hp, hI, he, h, hE, hT, _, hK => by simp [planOk] at hp
  | .last i p, D, H, 0, listed, X, σ, R, env, a, env', σ', R', T, E, A, hp, hI, he, h, hE, hT, _, hK => by simp [planOk] at hp
  | .late i p, D, H, 0, listed, X, σ, R, env, a, env', σ', R', T, E, A, hp, hI, he, h, hE, hT, _, hK => by simp [planOk] at hp
  | .fork i p q, D, H, f, listed, X, σ, R, env, a, env', σ', R', T, E, A, hp, hI, he, h, hE, hT, _, hK => by simp [idraw] at h
  | .early i p, D, H, f + 1, listed, X, σ, R, env, a, env', σ', R', T, E, A, hp, hI, he, h, hE, hT, hlt, hK => by
    simp only [planOk, Bool.and_eq_true] at hp
    obtain ⟨⟨⟨⟨⟨_, h1⟩, h2⟩, h0⟩, h3⟩, h4⟩ := hp
    have hiD := ready_contains h0
    simp only [idraw] at h
    split at h
    · rename_i o ho
      split at h
      · rename_i v hv
        split at h
        · rename_i e s r T' E' A' hrest
          simp only [Option.some.injEq, Prod.mk.injEq] at h
          obtain ⟨rfl, rfl, rfl, rfl, rfl, rfl⟩ := h
          obtain ⟨u, ru, rfl, k2, k3⟩ := iearly_sound (H := H) hI he hv (fun i hi => hE i (uni_spec.2 (.inl hi)))
          refine wpAnyL_take ho hs h1 h2 (by simpa using h3) hiD (fun c a w hq => absurd hq (hQ c _ _)) k3 Agree.here ?_
          exact idraw_ok hrec hd hs hQ p D H f _ X σ R _ _ _ _ _ _ _ _ h4 hI (he.put hI (Evo.refl hI) (dstsOk_spec hd ho) k2) hrest (fun i hi => hE i (uni_spec.2 (.inr hi))) hT hlt hK
        · cases h
      · cases h
    · cases h
  | .last i p, D, H, f + 1, listed, X, σ, R, env, a, env', σ', R', T, E, A, hp, hI, he, h, hE, hT, hlt, hK => by
    simp only [planOk, Bool.and_eq_true] at hp
    obtain ⟨⟨⟨h0, h1⟩, h2⟩, h3⟩ := hp
    have hiD := ready_contains h0
    simp only [idraw] at h
    split at h
    · rename_i o ho
      split at h
      · rename_i v σ1 R1 T1 hv
        split at h
        · rename_i e s r T' E' A' hrest
          simp only [Option.some.injEq, Prod.mk.injEq] at h
          obtain ⟨rfl, rfl, rfl, rfl, rfl, rfl⟩ := h
          have hstep : wpOp P ops Q i (fun a' w' => Agree H X w' ∧ wpAnyL P ops Q D (Agree H X) f (listed.setIfInBounds i true) a' w') a X.w := by
            refine istep_sound (He := hOf T1) hrec hI he ho hv (fun i hi => hOf_no hi) (fun v' r' σ2 R2 X' hK' hEv hH hI' hr => ?_)
            obtain ⟨rfl, rfl, rfl⟩ := hK'
            have hHH : HeldEq H X X' := hH.sub fun j hj => hOf_spec.2 fun hm => by rw [hT j (uni_spec.2 (.inl hm))] at hj; cases hj
            refine ⟨Agree.later hI hEv hHH Agree.here, wpAnyL_weaken (fun w hw => Agree.later hI hEv hHH hw) _ _ _ _ ?_⟩
            exact idraw_ok hrec hd hs hQ p D H f _ X' _ _ _ _ _ _ _ _ _ _ h3 hI' (he.put hI hEv (dstsOk_spec hd ho) hr) hrest hE (fun i hi => hT i (uni_spec.2 (.inr hi))) hlt
              (fun X'' a'' k1 k2 k3 k4 => hK X'' a'' (hEv.trans hI k1) (HeldEq.trans (G := G) (σ := σ) (R := R) hEv (hH.sub fun j hj => hOf_spec.2 fun hm => hOf_spec.1 hj (uni_spec.2 (.inl hm))) (k2.sub fun j hj => hOf_spec.2 fun hm => hOf_spec.1 hj (uni_spec.2 (.inr hm)))) k3 k4)
          refine ⟨fun hnil => by rw [hnil] at h2; simp at h2, fun j hj => ?_⟩
          rw [List.all_eq_true] at h1
          have hmem : j ∈ [i] := by simpa using h1 j hj
          obtain rfl := List.mem_singleton.1 hmem
          simp only [if_neg hiD]
          exact hstep
        · cases h
      · cases h
    · cases h
  | .late i p, D, H, f + 1, listed, X, σ, R, env, a, env', σ', R', T, E, A, hp, hI, he, h, hE, hT, hlt, hK => by
    simp only [planOk, Bool.and_eq_true] at hp
    obtain ⟨⟨⟨h0, h1⟩, h2⟩, h3⟩ := hp
    have hiD : i ∈ D := by simpa using h0
    simp only [idraw] at h
    split at h
    · rename_i o ho
      split at h
      · rename_i v σ1 R1 T1 hv
        split at h
        · rename_i e s r T' E' A' hrest
          obtain ⟨hET, h⟩ := cond_some h
          simp only [Option.some.injEq, Prod.mk.injEq] at h
          obtain ⟨rfl, rfl, rfl, rfl, rfl, rfl⟩ := h
          have hstep : wpOp P ops Q i (fun a' w' => wpAny P .any ops Q f (listed.setIfInBounds i true) a' w') a X.w := by
            refine istep_sound (He := hOf T1) hrec hI he ho hv (fun i hi => hOf_no hi) (fun v' r' σ2 R2 X' hK' hEv hH hI' hr => ?_)
            obtain ⟨rfl, rfl, rfl⟩ := hK'
            refine wpAny_of_late (D := latesOf p) (S := Agree (hOf T') X') _ _ _ _ ?_
            rw [List.all_eq_true] at hET
            exact idraw_ok hrec hd hs hQ p (latesOf p) (hOf T') f _ X' _ _ _ _ _ _ _ _ _ _ h3 hI' (he.put hI hEv (dstsOk_spec hd ho) hr) hrest hET (fun i hi => hOf_no hi) (fun _ h => h)
              (fun X'' a'' k1 k2 k3 k4 => hK X'' a'' (hEv.trans hI k1) (HeldEq.trans (G := G) (σ := σ) (R := R) hEv (hH.sub fun j hj => hOf_spec.2 fun hm => hOf_spec.1 hj (uni_spec.2 (.inl hm))) (k2.sub fun j hj => hOf_spec.2 fun hm => hOf_spec.1 hj (uni_spec.2 (.inr hm)))) k3 k4)
          refine ⟨fun hnil => by rw [hnil] at h2; simp at h2, fun j hj => ?_⟩
          rw [List.all_eq_true] at h1
          have hmem : j ∈ [i] := by simpa using h1 j hj
          obtain rfl := List.mem_singleton.1 hmem
          simp only [if_pos hiD]
          exact hstep
        · cases h
      · cases h
    · cases h
end

/-! ### Code -/
def unE : Env → Env
  | [] => []
  | (t, v) :: e => (t, unI v) :: unE e
theorem unE_get : ∀ (env : Env) (t : Nat), envGet (unE env) t = (envGet env t).map unI
  | [], t => rfl
  | (k, v) :: e, t => by
    simp only [unE, envGet]
    split
    · rfl
    · exact unE_get e t
def endOk : Exit → Bool
  | .normal => true
  | .ret => true
  | _ => false
abbrev CRes := Option (Exit × Env × List Blk × RowsA × List Nat)
def ifun (P : Program) (run : Nat → Code → Env → List Blk → RowsA → CRes) : Rec := fun g args σ R =>
  match P.funcs[g]? with
  | some fn => (match fn.body with
    | some c => cond (callable P g && Nat.ble args.length fn.ntmps) (match run fn.ntmps c (envOf 0 args) σ R with
      | some (e, env', σ', R', T) => cond (endOk e) (match resA P fn.results (unE env') σ' with
        | some v => some (v, σ', R', T.filter fun i => Nat.blt i σ.length)
        | none => none) none
      | none => none) none
    | none => none)
  | none => none
def icode (P : Program) (G : Nat → Option (List LV)) : Nat → Nat → Code → Env → List Blk → RowsA → CRes
  | 0, _, _, _, _, _ => none
  | f + 1, nt, c, env, σ, R => match c with
    | .skip => some (.normal, env, σ, R, [])
    | .exit id => some (.exit id, env, σ, R, [])
    | .ret => some (.ret, env, σ, R, [])
    | .label _ => some (.normal, env, σ, R, [])
    | .region _ ops false => cond (dstsOk nt ops) (match iops P G (ifun P (icode P G f)) ops ops.toList env σ R with
      | some (env', σ', R', T) => some (.normal, env', σ', R', T)
      | none => none) none
    | .region _ ops true => cond (dstsOk nt ops && Region.noSelect ops && orderOk ops)
      (match idraw P G (ifun P (icode P G f)) ops (orderOf ops) env σ R with
      | some (env', σ', R', T, E, A) => cond (E.all fun i => !T.contains i) (some (.normal, env', σ', R', A)) none
      | none => none) none
    | .seq x y => (match icode P G f nt x env σ R with
      | some (e, env1, σ1, R1, T1) => (match e with
        | .normal => (match icode P G f nt y env1 σ1 R1 with
          | some (e2, env2, σ2, R2, T2) => some (e2, env2, σ2, R2, uni T1 T2)
          | none => none)
        | e => some (e, env1, σ1, R1, T1))
      | none => none)
    | .cond o x y => (match opA G env o with
      | some (.l (.bool b)) => cond b (icode P G f nt x env σ R) (icode P G f nt y env σ R)
      | _ => none)
    | .block id x => (match icode P G f nt x env σ R with
      | some (e, env1, σ1, R1, T1) => (match e with
        | .exit id' => cond (id' == id) (some (.normal, env1, σ1, R1, T1)) (some (.exit id', env1, σ1, R1, T1))
        | e => some (e, env1, σ1, R1, T1))
      | none => none)
    | .loop x => (match icode P G f nt x env σ R with
      | some (e, env1, σ1, R1, T1) => (match e with
        | .normal => (match icode P G f nt (.loop x) env1 σ1 R1 with
          | some (e2, env2, σ2, R2, T2) => some (e2, env2, σ2, R2, uni T1 T2)
          | none => none)
        | e => some (e, env1, σ1, R1, T1))
      | none => none)
    | _ => none
def irun (P : Program) (G : Nat → Option (List LV)) (f : Nat) : Rec := ifun P (icode P G f)

/-- What a run comes to. -/
def Ends (G : Nat → Option (List LV)) (n : Nat) (X : Ctx) (e : Exit) (env : Env) (σ : List Blk) (R : RowsA) (T : List Nat) : Exit → Act → World → Prop := fun e' a' w' =>
  e' = e ∧ ∃ X', X'.w = w' ∧ Evo X X' ∧ HeldEq (hOf T) X X' ∧ Inv G X' σ R ∧ EnvOk X' n env a'
def LoopIn (P : Program) (c : Code) (Q : Exit → Act → World → Prop) (a : Act) (w : World) : Prop :=
  ∀ (b : Frame) (k : List Item) (cs : List Frame), ∃ e a' w', Q e a' w' ∧ Arrives P (lone (b.at a (.code c :: .inLoop c :: k)) cs w) b k cs e a' w'
theorem wp_loop_in {P : Program} {c : Code} {Q : Exit → Act → World → Prop} {a : Act} {w : World} (h : LoopIn P c Q a w) : (Code.loop c).wp P Q a w := fun b k cs => by
  obtain ⟨e, a', w', hq, harr⟩ := h b k cs
  exact ⟨e, a', w', hq, .of_steps (.one step_loop) harr⟩
theorem loopIn_step {P : Program} {c : Code} {Q : Exit → Act → World → Prop} {a : Act} {w : World} (h : c.wp P (Exit.then (LoopIn P c Q) Q) a w) : LoopIn P c Q a w := fun b k cs => by
  obtain ⟨e, a₁, w₁, hq, harr⟩ := h b (.inLoop c :: k) cs
  cases e with
  | normal =>
    obtain ⟨e₂, a₂, w₂, hq₂, harr₂⟩ := hq b k cs
    exact ⟨e₂, a₂, w₂, hq₂, .of_steps (Steps.trans harr (.one step_inLoop)) harr₂⟩
  | exit id => exact ⟨_, a₁, w₁, hq, .pass (x := .inLoop c) rfl (fun _ _ => .inl (by simp)) harr⟩
  | goto l => exact ⟨_, a₁, w₁, hq, .pass (x := .inLoop c) rfl (fun _ _ => .inl (by simp)) harr⟩
  | ret => exact ⟨_, a₁, w₁, hq, .pass (x := .inLoop c) rfl (fun _ _ => .inl (by simp)) harr⟩
  | panic ch => exact ⟨_, a₁, w₁, hq, .pass (x := .inLoop c) rfl (fun _ _ => .inl (by simp)) harr⟩
  | outgrown => exact ⟨_, a₁, w₁, hq, .pass (x := .inLoop c) rfl (fun _ _ => .inl (by simp)) harr⟩
theorem loopIn_mono {P : Program} {c : Code} {Q Q' : Exit → Act → World → Prop} {a : Act} {w : World} (h : LoopIn P c Q a w) (hq : ∀ e a w, Q e a w → Q' e a w) : LoopIn P c Q' a w := fun b k cs =>
  let ⟨e, a', w', q, r⟩ := h b k cs; ⟨e, a', w', hq _ _ _ q, r⟩

section
variable {P : Program} {G : Nat → Option (List LV)}

theorem Ends.later {n : Nat} {X X1 : Ctx} {σ σ2 : List Blk} {R R2 : RowsA} {env2 : Env} {e : Exit} {T1 T2 : List Nat} (hI : Inv G X σ R) (hE : Evo X X1) (hH : HeldEq (hOf T1) X X1) {e' : Exit} {a' : Act} {w' : World}
    (h : Ends G n X1 e env2 σ2 R2 T2 e' a' w') : Ends G n X e env2 σ2 R2 (uni T1 T2) e' a' w' := by
  obtain ⟨rfl, X2, rfl, h1, h2, h3, h4⟩ := h
  exact ⟨rfl, X2, rfl, hE.trans hI h1, HeldEq.trans (G := G) (σ := σ) (R := R) hE (hH.sub fun i hi => hOf_spec.2 fun hm => hOf_spec.1 hi (uni_spec.2 (.inl hm))) (h2.sub fun i hi => hOf_spec.2 fun hm => hOf_spec.1 hi (uni_spec.2 (.inr hm))), h3, h4⟩

def RunOk (P : Program) (G : Nat → Option (List LV)) (run : Nat → Code → Env → List Blk → RowsA → CRes) : Prop :=
  ∀ nt c env σ R e env' σ' R' T, run nt c env σ R = some (e, env', σ', R', T) → ∀ X a, Inv G X σ R → EnvOk X nt env a → c.wp P (Ends G nt X e env' σ' R' T) a X.w

theorem ifun_ok {run : Nat → Code → Env → List Blk → RowsA → CRes} (hr : RunOk P G run) : RecOk P G (ifun P run) := by
  intro g args σ R v σ' R' T h
  unfold ifun at h
  split at h
  · rename_i fn hf
    split at h
    · rename_i c hb
      obtain ⟨h1, h2⟩ := cond_some h
      simp only [Bool.and_eq_true, Nat.ble_eq] at h1
      split at h2
      · rename_i e env1 σ1 R1 T1 hrun
        obtain ⟨h3, h4⟩ := cond_some h2
        split at h4
        · rename_i u hres
          simp only [Option.some.injEq, Prod.mk.injEq] at h4
          obtain ⟨rfl, rfl, rfl, rfl⟩ := h4
          refine ⟨h1.1, fun X argsV hI hl hargs => ?_⟩
          refine calls_of_wp hf hb (wp_mono (hr _ _ _ _ _ _ _ _ _ _ hrun X _ hI ⟨rfl, ?_, ?_⟩) ?_)
          · have := h1.2
            simp; omega
          · intro t v ht
            obtain ⟨_, h2⟩ := envOf_get args 0 t v ht
            obtain ⟨u, u1, u2⟩ := hargs t v (by simpa using h2)
            have hlt := (Array.getElem?_eq_some_iff.1 u1).1
            exact ⟨u, by simp only; rw [Array.getElem?_append_left hlt]; exact u1, u2⟩
          · rintro e' a' w' ⟨rfl, X', rfl, hE, hH, hI', he'⟩
            have he2 : EnvOk X' fn.ntmps (unE env1) a' := ⟨he'.1, he'.2.1, fun t v ht => by
              rw [unE_get, Option.map_eq_some_iff] at ht
              obtain ⟨y, y1, rfl⟩ := ht
              obtain ⟨r, r1, r2⟩ := he'.2.2 t y y1
              exact ⟨r, r1, unI_sound r2⟩⟩
            obtain ⟨r, r1, r2⟩ := resA_sound (P := P) hI' he2 hres
            have fin : a'.defers = [] ∧ ∃ v, (results fn a'.tmps).run P X'.w = .ok v X'.w ∧ ∃ res r' σ'' R'' X'', Ending.returned v = .returned r' ∧ (res = u ∧ σ'' = σ1 ∧ R'' = R1) ∧ X''.w = X'.w ∧ Evo X X'' ∧ HeldEq (hOf (T1.filter fun i => Nat.blt i σ.length)) X X'' ∧ Inv G X'' σ'' R'' ∧ RepV X'' res r' :=
              ⟨he'.1, r, r1, u, r, σ1, R1, X', rfl, ⟨rfl, rfl, rfl⟩, rfl, hE, fun i b hb hi => hH i b hb (by
                rw [hOf_spec] at hi ⊢
                intro hm
                refine hi (List.mem_filter.2 ⟨hm, ?_⟩)
                have : i < σ.length := by rw [← hI.muLen]; exact (List.getElem?_eq_some_iff.1 hb).1
                simpa using this), hI', r2⟩
            cases e' with
            | normal => exact fin
            | ret => exact fin
            | _ => simp [endOk] at h3
        · cases h4
      · cases h2
    · cases h
  · cases h

theorem icode_ok (hm : P.follows .mixedOrders = true) : ∀ (f : Nat), RunOk P G (icode P G f) ∧
    ∀ nt c env σ R e env' σ' R' T, icode P G f nt (.loop c) env σ R = some (e, env', σ', R', T) → ∀ X a, Inv G X σ R → EnvOk X nt env a → LoopIn P c (Ends G nt X e env' σ' R' T) a X.w
  | 0 => ⟨fun nt c env σ R e env' σ' R' T h => by simp [icode] at h, fun nt c env σ R e env' σ' R' T h => by simp [icode] at h⟩
  | f + 1 => by
    obtain ⟨ih, ihl⟩ := icode_ok hm f
    have hrec : RecOk P G (ifun P (icode P G f)) := ifun_ok ih
    have hloop : ∀ nt c env σ R e env' σ' R' T, icode P G (f + 1) nt (.loop c) env σ R = some (e, env', σ', R', T) → ∀ X a, Inv G X σ R → EnvOk X nt env a → LoopIn P c (Ends G nt X e env' σ' R' T) a X.w := by
      intro nt c env σ R e env' σ' R' T h X a hI he
      simp only [icode] at h
      split at h
      · rename_i e1 env1 σ1 R1 T1 hx
        refine loopIn_step (wp_mono (ih _ _ _ _ _ _ _ _ _ _ hx X a hI he) ?_)
        rintro e' a' w' ⟨rfl, X', rfl, hE, hH, hI', he'⟩
        split at h
        · split at h
          · rename_i e2 env2 σ2 R2 T2 hy
            simp only [Option.some.injEq, Prod.mk.injEq] at h
            obtain ⟨rfl, rfl, rfl, rfl, rfl⟩ := h
            exact loopIn_mono (ihl _ _ _ _ _ _ _ _ _ _ hy X' a' hI' he') fun _ _ _ q => Ends.later hI hE hH q
          · cases h
        · rename_i hne
          simp only [Option.some.injEq, Prod.mk.injEq] at h
          obtain ⟨rfl, rfl, rfl, rfl, rfl⟩ := h
          cases e' with
          | normal => exact absurd rfl hne
          | _ => exact ⟨rfl, X', rfl, hE, hH, hI', he'⟩
      · cases h
    refine ⟨fun nt c env σ R e env' σ' R' T h X a hI he => ?_, hloop⟩
    cases c with
    | loop c => exact wp_loop_in (hloop _ _ _ _ _ _ _ _ _ _ h X a hI he)
    | skip =>
      simp only [icode, Option.some.injEq, Prod.mk.injEq] at h
      obtain ⟨rfl, rfl, rfl, rfl, rfl⟩ := h
      exact wp_skip ⟨rfl, X, rfl, Evo.refl hI, HeldEq.refl', hI, he⟩
    | exit id =>
      simp only [icode, Option.some.injEq, Prod.mk.injEq] at h
      obtain ⟨rfl, rfl, rfl, rfl, rfl⟩ := h
      exact wp_exit ⟨rfl, X, rfl, Evo.refl hI, HeldEq.refl', hI, he⟩
    | ret =>
      simp only [icode, Option.some.injEq, Prod.mk.injEq] at h
      obtain ⟨rfl, rfl, rfl, rfl, rfl⟩ := h
      exact wp_ret ⟨rfl, X, rfl, Evo.refl hI, HeldEq.refl', hI, he⟩
    | label l =>
      simp only [icode, Option.some.injEq, Prod.mk.injEq] at h
      obtain ⟨rfl, rfl, rfl, rfl, rfl⟩ := h
      exact wp_label ⟨rfl, X, rfl, Evo.refl hI, HeldEq.refl', hI, he⟩
    | region id ops d =>
      cases d with
      | false =>
        simp only [icode] at h
        obtain ⟨hd, h2⟩ := cond_some h
        split at h2
        · rename_i env1 σ1 R1 T1 hx
          simp only [Option.some.injEq, Prod.mk.injEq] at h2
          obtain ⟨rfl, rfl, rfl, rfl, rfl⟩ := h2
          refine wp_region ?_
          rw [List.range_eq_range']
          have := iops_ok (Q := Ends G nt X .normal env1 σ1 R1 T1) hrec hd ops.toList 0 X σ R env a _ _ _ _ (fun j _ => by simp) hI he hx (fun X' a' k1 k2 k3 k4 => ⟨rfl, X', rfl, k1, k2, k3, k4⟩)
          simpa using this
        · cases h2
      | true =>
        simp only [icode] at h
        obtain ⟨hd, h2⟩ := cond_some h
        simp only [Bool.and_eq_true] at hd
        split at h2
        · rename_i env1 σ1 R1 T1 E1 A1 hx
          obtain ⟨hET, h3⟩ := cond_some h2
          simp only [Option.some.injEq, Prod.mk.injEq] at h3
          obtain ⟨rfl, rfl, rfl, rfl, rfl⟩ := h3
          obtain ⟨hE, hI'⟩ := hI.drew
          have he' : EnvOk { X with w := X.w.drew } nt env a := ⟨he.1, he.2.1, fun t v ht => let ⟨r, h1, h2⟩ := he.2.2 t v ht; ⟨r, h1, hE.repV hI h2⟩⟩
          refine wp_region_any hm (wpAny_of_late (D := latesOf (orderOf ops)) (S := Agree (hOf T1) { X with w := X.w.drew }) _ _ _ _ ?_)
          rw [List.all_eq_true] at hET
          refine idraw_ok (Q := Ends G nt X .normal env1 σ1 R1 A1) hrec hd.1.1 hd.1.2 (fun c a w hq => by cases hq.1) _ _ (hOf T1) _ _ { X with w := X.w.drew } σ R env a _ _ _ _ _ _ hd.2 hI' he' hx hET (fun i hi => hOf_no hi) (fun _ h => h) (fun X' a' k1 k2 k3 k4 => ?_)
          exact ⟨rfl, X', rfl, hE.trans hI k1, HeldEq.trans (G := G) (σ := σ) (R := R) hE (fun _ _ _ _ => rfl) k2, k3, k4⟩
        · cases h2
    | seq x y =>
      simp only [icode] at h
      split at h
      · rename_i e1 env1 σ1 R1 T1 hx
        refine wp_seq (wp_mono (ih _ _ _ _ _ _ _ _ _ _ hx X a hI he) ?_)
        rintro e' a' w' ⟨rfl, X', rfl, hE, hH, hI', he'⟩
        split at h
        · split at h
          · rename_i e2 env2 σ2 R2 T2 hy
            simp only [Option.some.injEq, Prod.mk.injEq] at h
            obtain ⟨rfl, rfl, rfl, rfl, rfl⟩ := h
            exact wp_mono (ih _ _ _ _ _ _ _ _ _ _ hy X' a' hI' he') fun _ _ _ q => Ends.later hI hE hH q
          · cases h
        · rename_i hne
          simp only [Option.some.injEq, Prod.mk.injEq] at h
          obtain ⟨rfl, rfl, rfl, rfl, rfl⟩ := h
          cases e' with
          | normal => exact absurd rfl hne
          | _ => exact ⟨rfl, X', rfl, hE, hH, hI', he'⟩
      · cases h
    | cond o x y =>
      simp only [icode] at h
      split at h
      · rename_i b hb
        have := repL_bool (opA_sound hI he hb)
        cases b with
        | true => exact wp_cond_true this (ih _ _ _ _ _ _ _ _ _ _ h X a hI he)
        | false => exact wp_cond_false this (ih _ _ _ _ _ _ _ _ _ _ h X a hI he)
      · cases h
    | block id x =>
      simp only [icode] at h
      split at h
      · rename_i e1 env1 σ1 R1 T1 hx
        refine wp_block (wp_mono (ih _ _ _ _ _ _ _ _ _ _ hx X a hI he) ?_)
        rintro e' a' w' ⟨rfl, X', rfl, hE, hH, hI', he'⟩
        split at h
        · rename_i id'
          simp only [Exit.inBlock]
          by_cases hid : id' = id
          · subst hid
            simp only [beq_self_eq_true, cond_true, Option.some.injEq, Prod.mk.injEq] at h
            obtain ⟨rfl, rfl, rfl, rfl, rfl⟩ := h
            rw [if_pos rfl]
            exact ⟨rfl, X', rfl, hE, hH, hI', he'⟩
          · have hb : (id' == id) = false := by simpa using hid
            rw [hb] at h
            simp only [cond_false, Option.some.injEq, Prod.mk.injEq] at h
            obtain ⟨rfl, rfl, rfl, rfl, rfl⟩ := h
            rw [if_neg hid]
            exact ⟨rfl, X', rfl, hE, hH, hI', he'⟩
        · rename_i hne
          simp only [Option.some.injEq, Prod.mk.injEq] at h
          obtain ⟨rfl, rfl, rfl, rfl, rfl⟩ := h
          cases e' with
          | exit id' => exact absurd rfl (hne id')
          | _ => exact ⟨rfl, X', rfl, hE, hH, hI', he'⟩
      · cases h
    | rangeFunc f ps a b => simp [icode] at h
    | scope b => simp [icode] at h
    | goto l => simp [icode] at h
    | refuse w => simp [icode] at h

theorem irun_ok (hm : P.follows .mixedOrders = true) (f : Nat) : RecOk P G (irun P G f) := ifun_ok (icode_ok hm f).1

/-- A run whose result leads nowhere of its own. -/
theorem acx_of_run (hm : P.follows .mixedOrders = true) {f : Nat} {g : FuncId} {args : List AV} {v v' : AV} {σ' : List Blk} {R' : RowsA} {T : List Nat} (h : irun P G f g args [] [] = some (v, σ', R', T)) (hw : v.wk (v'.rnR [])) (hc : v'.cl 0 0 = true) :
    ACX P G g args [] [] v' [] [] := by
  obtain ⟨h1, h2⟩ := irun_ok hm f _ _ _ _ _ _ _ _ h
  refine ⟨h1, fun X argsV hI hl ha => (h2 X argsV hI hl ha).mono ?_⟩
  rintro e w ⟨res, r, σ'', R'', X', rfl, ⟨rfl, rfl, rfl⟩, rfl, hE, hH, hI', hr⟩
  have hrl : X.rows.length = 0 := by have := hI.rowsR; simpa using congrArg List.length this
  have hrl' : X'.rows.length = R''.length := by rw [← hI'.rowsR]; simp
  have hmu : X.mu.length = 0 := hI.muLen
  refine ⟨v', r, [], [], X'.trim 0 [], rfl, ⟨rfl, rfl, rfl⟩, rfl, ?_, fun _ _ _ hh => (by cases hh), ?_, ?_⟩
  · exact hE.trim hrl' (by rw [hmu]; exact Nat.le_refl _) hrl (keeps_nil _)
  · exact hI'.trim (Nat.zero_le _) (keeps_nil _) (by simp [wkS]) rfl
  · exact trim_repV (fun i hi => by cases hi) hc (wkA_sound hw hr)

/-- A function that answers true. -/
def saysTrue : Res → Bool
  | some (.l (.bool b), _, _, _) => b
  | _ => false
theorem acx_true (hm : P.follows .mixedOrders = true) (f : Nat) {g : FuncId} {args : List AV} (h : saysTrue (irun P G f g args [] []) = true) : ACX P G g args [] [] (.l (.bool true)) [] [] := by
  unfold saysTrue at h
  split at h
  · rename_i b σ' R' T hr
    subst h
    exact acx_of_run hm hr rfl rfl
  · cases h
end
end Go.Abs
