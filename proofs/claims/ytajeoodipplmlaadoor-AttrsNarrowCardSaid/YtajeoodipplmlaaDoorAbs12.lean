/-
  STATEMENTS AND CODE: one operation behind the other; sequences, tests, blocks, loops; a function's body; a call within a larger store.
-/
import Derived.Test.YtajeoodipplmlaaDoorAbs11
set_option linter.all false
namespace Go.Abs
open Go Go.RowKit

section
variable {P : Program} {G : Nat → Option (List LV)} {H Hl He : Nat → Bool} {X X' : Ctx} {σ : List Blk} {R : RowsA} {n : Nat} {env : Env} {a : Act} {ops : Array Oper}

theorem gval_sound (he : EnvOk X n env a) {j : Nat} {want g : Bool} (h : gval ops env j want = some g) : (yielded ops a.tmps j == some want) = g := by
  unfold gval at h
  unfold yielded
  cases hd : (ops[j]?).bind (·.dst) with
  | none => simp [hd] at h
  | some t =>
    simp only [hd, Option.bind_some] at h ⊢
    split at h
    · rename_i b hb
      obtain rfl := Option.some.inj h
      obtain ⟨r, h1, h2⟩ := he.2.2 t _ hb
      rw [h1, repL_bool h2]
      cases want <;> cases b <;> rfl
    · rename_i c b hb
      obtain rfl := Option.some.inj h
      obtain ⟨r, h1, h2⟩ := he.2.2 t _ hb
      rw [h1]
      cases c with
      | true => rw [repL_bool (h2.1 rfl)]; cases want <;> cases b <;> rfl
      | false => rw [h2.2 rfl]; simp [Go.undef]
    · rename_i hb
      obtain rfl := Option.some.inj h
      obtain ⟨r, h1, h2⟩ := he.2.2 t _ hb
      rw [h1]
      have h3 : r = Go.undef := h2
      rw [h3]; simp [Go.undef]
    · cases h

theorem mkIfb_true {g : Bool} {v u : AV} {r : Value} (h : mkIfb g v = some u) (hg : g = true) (hr : RepV X v r) : RepV X u r := by
  cases v with
  | tup xs => simp [mkIfb] at h
  | ifb c v => simp only [mkIfb, Option.some.injEq] at h; subst h; subst hg; simpa using hr
  | l x => simp only [mkIfb, Option.some.injEq] at h; subst h; exact ⟨fun _ => hr, fun h => (by rw [hg] at h; cases h)⟩
  | agg x => simp only [mkIfb, Option.some.injEq] at h; subst h; exact ⟨fun _ => hr, fun h => (by rw [hg] at h; cases h)⟩
  | undef => simp only [mkIfb, Option.some.injEq] at h; subst h; exact ⟨fun _ => hr, fun h => (by rw [hg] at h; cases h)⟩
theorem mkIfb_false {g : Bool} {v u : AV} (h : mkIfb g v = some u) (hg : g = false) : RepV X u Go.undef := by
  cases v with
  | tup xs => simp [mkIfb] at h
  | ifb c v => simp only [mkIfb, Option.some.injEq] at h; subst h; subst hg; exact ⟨fun h => by simp at h, fun _ => rfl⟩
  | l x => simp only [mkIfb, Option.some.injEq] at h; subst h; exact ⟨fun h => (by rw [hg] at h; cases h), fun _ => rfl⟩
  | agg x => simp only [mkIfb, Option.some.injEq] at h; subst h; exact ⟨fun h => (by rw [hg] at h; cases h), fun _ => rfl⟩
  | undef => simp only [mkIfb, Option.some.injEq] at h; subst h; exact ⟨fun h => (by rw [hg] at h; cases h), fun _ => rfl⟩

theorem flat_ifb {v : AV} {r : Value} (h : v.flat = true) (hr : RepV X v r) : RepV X (.ifb true v) r := by
  cases v with
  | l x => exact ⟨fun _ => hr, fun h => (by cases h)⟩
  | agg x => exact ⟨fun _ => hr, fun h => (by cases h)⟩
  | undef => exact ⟨fun _ => hr, fun h => (by cases h)⟩
  | tup x => cases h
  | ifb c x => cases h
theorem no_undef {u : AV} (h : u.no = true) : RepV X u Go.undef := by
  cases u with
  | undef => exact rfl
  | ifb c v => simp only [AV.no, Bool.not_eq_true'] at h; subst h; exact ⟨fun h => (by cases h), fun _ => rfl⟩
  | l x => cases h
  | agg x => cases h
  | tup x => cases h

theorem astep_sound (hI : Inv G X σ R) (he : EnvOk X n env a) {i : Nat} {o : Oper} {K : AV → List Blk → RowsA → Prop} (ho : ops[i]? = some o) (h : astep P G Hl He ops env σ R o K)
    {Kc : Act → World → Prop} {Q : Exit → Act → World → Prop} (hK : ∀ v r σ' R' X', K v σ' R' → Evo X X' → HeldEq He X X' → Inv G X' σ' R' → RepV X' v r → Kc (a.put o.dst r) X'.w) : wpOp P ops Q i Kc a X.w := by
  unfold wpOp
  rw [ho]
  unfold astep at h
  cases hg : o.guard with
  | none =>
    rw [hg] at h
    have hw : Region.wanted o (yielded ops a.tmps) = true := by simp [Region.wanted, hg]
    simp only [hw, if_true]
    exact .inl (aop_sound hI he h Kc Q hK)
  | some jw =>
    obtain ⟨j, want⟩ := jw
    rw [hg] at h
    simp only at h
    cases hgv : gval ops env j want with
    | none => rw [hgv] at h; exact h.elim
    | some g =>
      rw [hgv] at h
      have hw : Region.wanted o (yielded ops a.tmps) = g := by simp only [Region.wanted, hg]; exact gval_sound he hgv
      simp only [hw]
      cases hpv : pv P G Hl env σ o.op with
      | none =>
        rw [hpv] at h
        cases g with
        | true =>
          refine .inl (aop_sound hI he (h.1 rfl) Kc Q ?_)
          rintro v r σ' R' X' (hk | ⟨hfl, hk⟩) h1 h2 h3 h4
          · exact hK _ _ _ _ X' hk h1 h2 h3 h4
          · exact hK _ _ _ _ X' hk h1 h2 h3 (flat_ifb hfl h4)
        | false =>
          obtain ⟨u, h1, h2⟩ := h.2 rfl
          exact hK _ _ _ _ X h2 (Evo.refl hI) HeldEq.refl' hI (no_undef h1)
      | some Sv =>
        obtain ⟨S, v⟩ := Sv
        rw [hpv] at h
        simp only at h
        cases hm : mkIfb g v with
        | none => rw [hm] at h; exact h.elim
        | some u =>
          rw [hm] at h
          cases g with
          | true =>
            obtain ⟨r, h1, h2⟩ := pv_sound hI he hpv (h.1 rfl)
            refine .inl ?_
            unfold Oper.wp
            rw [h2 X.w (.inr Agree.here)]
            exact hK _ _ _ _ X h.2 (Evo.refl hI) HeldEq.refl' hI (mkIfb_true hm rfl h1)
          | false => exact hK _ _ _ _ X h.2 (Evo.refl hI) HeldEq.refl' hI (mkIfb_false hm rfl)

def dstsOk (n : Nat) (ops : Array Oper) : Bool := ops.toList.all fun o => match o.dst with | some d => decide (d < n) | none => true
theorem dstsOk_spec (h : dstsOk n ops = true) {i : Nat} {o : Oper} (ho : ops[i]? = some o) : ∀ d, o.dst = some d → d < n := by
  intro d hd
  unfold dstsOk at h
  rw [List.all_eq_true] at h
  have := h o (by simpa using Array.mem_of_getElem? ho)
  rw [hd] at this
  simpa using this

theorem aops_sound (hd : dstsOk n ops = true) {K : Env → List Blk → RowsA → Prop} {Q : Exit → Act → World → Prop} :
    ∀ (l : List Oper) (k : Nat) (X : Ctx) (σ : List Blk) (R : RowsA) (env : Env) (a : Act), (∀ j, j < l.length → l[j]? = ops[k + j]?) → Inv G X σ R → EnvOk X n env a → aops P G Hl He ops K l env σ R →
      (∀ X' env' σ' R' a', K env' σ' R' → Evo X X' → Inv G X' σ' R' → EnvOk X' n env' a' → Q .normal a' X'.w) → wpOps P ops Q (List.range' k l.length) a X.w
  | [], k, X, σ, R, env, a, _, hI, he, h, hQ => by
    simp only [List.length_nil, List.range'_zero, wpOps]
    exact hQ X env σ R a h (Evo.refl hI) hI he
  | o :: l, k, X, σ, R, env, a, hl, hI, he, h, hQ => by
    have ho : ops[k]? = some o := by
      have := hl 0 (by simp)
      simpa using this.symm
    simp only [List.length_cons, List.range'_succ, wpOps_cons]
    refine astep_sound hI he ho h (fun v r σ' R' X' hK hE hH hI' hr => ?_)
    exact aops_sound hd l (k + 1) X' σ' R' _ _ (fun j hj => by
      have := hl (j + 1) (by simpa using hj)
      rw [show k + 1 + j = k + (j + 1) by omega]
      simpa using this) hI' (he.put hI hE (dstsOk_spec hd ho) hr) hK (fun X'' env'' σ'' R'' a'' k1 k2 k3 k4 => hQ X'' env'' σ'' R'' a'' k1 (hE.trans hI k2) k3 k4)

/-- Code, over abstract variables; k0 and m0: how many variables and rows there were when the function began. -/
def AWP (P : Program) (G : Nat → Option (List LV)) (n k0 m0 : Nat) (c : Code) (Q : Exit → Env → List Blk → RowsA → Prop) (env : Env) (σ : List Blk) (R : RowsA) : Prop :=
  ∀ (X0 X : Ctx) (a : Act), (∃ σ0 R0, Inv G X0 σ0 R0) → X0.mu.length = k0 → X0.rows.length = m0 → Evo X0 X → Inv G X σ R → EnvOk X n env a →
    c.wp P (fun e a' w' => ∃ X' env' σ' R', Q e env' σ' R' ∧ X'.w = w' ∧ Evo X0 X' ∧ Inv G X' σ' R' ∧ EnvOk X' n env' a') a X.w

def thenA (next : Env → List Blk → RowsA → Prop) (Q : Exit → Env → List Blk → RowsA → Prop) : Exit → Env → List Blk → RowsA → Prop
  | .normal, env, σ, R => next env σ R
  | e, env, σ, R => Q e env σ R
def inBlockA (id : Nat) (Q : Exit → Env → List Blk → RowsA → Prop) : Exit → Env → List Blk → RowsA → Prop
  | .exit id', env, σ, R => if id' = id then Q .normal env σ R else Q (.exit id') env σ R
  | e, env, σ, R => Q e env σ R

variable {Q : Exit → Env → List Blk → RowsA → Prop} {k0 m0 : Nat}

theorem awp_region {id : Nat} (hd : dstsOk n ops = true) (h : aops P G (fun _ => true) (fun _ => false) ops (fun env σ R => Q .normal env σ R) ops.toList env σ R) : AWP P G n k0 m0 (.region id ops false) Q env σ R := by
  rintro X0 X a ⟨σ0, R0, hI0⟩ _ _ hE0 hI he
  refine wp_region ?_
  rw [List.range_eq_range']
  have := aops_sound (Q := fun e a' w' => ∃ X' env' σ' R', Q e env' σ' R' ∧ X'.w = w' ∧ Evo X0 X' ∧ Inv G X' σ' R' ∧ EnvOk X' n env' a') hd ops.toList 0 X σ R env a (fun j _ => by simp) hI he h
    (fun X' env' σ' R' a' h1 h2 h3 h4 => ⟨X', env', σ', R', h1, rfl, hE0.trans hI0 h2, h3, h4⟩)
  simpa using this

theorem awp_skip (h : Q .normal env σ R) : AWP P G n k0 m0 .skip Q env σ R := fun _ X _ _ _ _ hE hI he => wp_skip ⟨X, env, σ, R, h, rfl, hE, hI, he⟩
theorem awp_exit {id : Nat} (h : Q (.exit id) env σ R) : AWP P G n k0 m0 (.exit id) Q env σ R := fun _ X _ _ _ _ hE hI he => wp_exit ⟨X, env, σ, R, h, rfl, hE, hI, he⟩
theorem awp_ret (h : Q .ret env σ R) : AWP P G n k0 m0 .ret Q env σ R := fun _ X _ _ _ _ hE hI he => wp_ret ⟨X, env, σ, R, h, rfl, hE, hI, he⟩
theorem awp_label {l : Nat} (h : Q .normal env σ R) : AWP P G n k0 m0 (.label l) Q env σ R := fun _ X _ _ _ _ hE hI he => wp_label ⟨X, env, σ, R, h, rfl, hE, hI, he⟩

theorem awp_seq {x y : Code} (h : AWP P G n k0 m0 x (thenA (AWP P G n k0 m0 y Q) Q) env σ R) : AWP P G n k0 m0 (.seq x y) Q env σ R := by
  intro X0 X a h0 hk hm hE hI he
  refine wp_seq (wp_mono (h X0 X a h0 hk hm hE hI he) ?_)
  rintro e a' w' ⟨X', env', σ', R', hq, rfl, hE, hI', he'⟩
  cases e with
  | normal => exact hq X0 X' a' h0 hk hm hE hI' he'
  | exit id => exact ⟨X', env', σ', R', hq, rfl, hE, hI', he'⟩
  | goto l => exact ⟨X', env', σ', R', hq, rfl, hE, hI', he'⟩
  | ret => exact ⟨X', env', σ', R', hq, rfl, hE, hI', he'⟩
  | panic c => exact ⟨X', env', σ', R', hq, rfl, hE, hI', he'⟩
  | outgrown => exact ⟨X', env', σ', R', hq, rfl, hE, hI', he'⟩

theorem awp_seq_k {x y : Code} (h : ∀ K : Env → List Blk → RowsA → Prop, (∀ env σ R, AWP P G n k0 m0 y Q env σ R → K env σ R) → AWP P G n k0 m0 x (thenA K Q) env σ R) : AWP P G n k0 m0 (.seq x y) Q env σ R :=
  awp_seq (h _ fun _ _ _ h => h)

theorem awp_cond {c : Operand} {x y : Code} {b : Bool} (hb : opA G env c = some (.l (.bool b))) (ht : b = true → AWP P G n k0 m0 x Q env σ R) (hf : b = false → AWP P G n k0 m0 y Q env σ R) : AWP P G n k0 m0 (.cond c x y) Q env σ R := by
  intro X0 X a h0 hk hm hE hI he
  have := repL_bool (opA_sound hI he hb)
  exact wp_cond_split this (fun h => ht h X0 X a h0 hk hm hE hI he) (fun h => hf h X0 X a h0 hk hm hE hI he)

theorem awp_block {id : Nat} {c : Code} (h : AWP P G n k0 m0 c (inBlockA id Q) env σ R) : AWP P G n k0 m0 (.block id c) Q env σ R := by
  intro X0 X a h0 hk hm hE hI he
  refine wp_block (wp_mono (h X0 X a h0 hk hm hE hI he) ?_)
  rintro e a' w' ⟨X', env', σ', R', hq, rfl, hE, hI', he'⟩
  cases e with
  | exit id' =>
    simp only [inBlockA] at hq
    simp only [Exit.inBlock]
    split
    · rename_i h1; rw [if_pos h1] at hq; exact ⟨X', env', σ', R', hq, rfl, hE, hI', he'⟩
    · rename_i h1; rw [if_neg h1] at hq; exact ⟨X', env', σ', R', hq, rfl, hE, hI', he'⟩
  | normal => exact ⟨X', env', σ', R', hq, rfl, hE, hI', he'⟩
  | goto l => exact ⟨X', env', σ', R', hq, rfl, hE, hI', he'⟩
  | ret => exact ⟨X', env', σ', R', hq, rfl, hE, hI', he'⟩
  | panic c => exact ⟨X', env', σ', R', hq, rfl, hE, hI', he'⟩
  | outgrown => exact ⟨X', env', σ', R', hq, rfl, hE, hI', he'⟩

/-- A loop: what holds at its head, with a number that every round lowers. -/
theorem wp_loop_m {c : Code} {Qr : Exit → Act → World → Prop} {w : World} (I : Nat → Act → World → Prop) (m : Nat) (h₀ : I m a w)
    (round : ∀ m a w, I m a w → c.wp P (Exit.then (fun a' w' => ∃ m', m' < m ∧ I m' a' w') Qr) a w) : (Code.loop c).wp P Qr a w := by
  intro b k cs
  have key : ∀ m a w, I m a w → ∃ e a' w', Qr e a' w' ∧ Arrives P (lone (b.at a (.code c :: .inLoop c :: k)) cs w) b k cs e a' w' := by
    intro m
    induction m using Nat.strongRecOn with
    | _ m ih =>
      intro a w hI
      obtain ⟨e, a₁, w₁, hq, harr⟩ := round m a w hI b (.inLoop c :: k) cs
      cases e with
      | normal =>
        obtain ⟨m', hlt, hI₁⟩ := hq
        obtain ⟨e₂, a₂, w₂, hq₂, harr₂⟩ := ih m' hlt a₁ w₁ hI₁
        exact ⟨e₂, a₂, w₂, hq₂, .of_steps (Steps.trans harr (.one step_inLoop)) harr₂⟩
      | exit id => exact ⟨_, a₁, w₁, hq, .pass (x := .inLoop c) rfl (fun _ _ => .inl (by simp)) harr⟩
      | goto l => exact ⟨_, a₁, w₁, hq, .pass (x := .inLoop c) rfl (fun _ _ => .inl (by simp)) harr⟩
      | ret => exact ⟨_, a₁, w₁, hq, .pass (x := .inLoop c) rfl (fun _ _ => .inl (by simp)) harr⟩
      | panic ch => exact ⟨_, a₁, w₁, hq, .pass (x := .inLoop c) rfl (fun _ _ => .inl (by simp)) harr⟩
      | outgrown => exact ⟨_, a₁, w₁, hq, .pass (x := .inLoop c) rfl (fun _ _ => .inl (by simp)) harr⟩
  obtain ⟨e, a', w', hq, harr⟩ := key m a w h₀
  exact ⟨e, a', w', hq, .of_steps (.one step_loop) harr⟩

theorem awp_mono {c : Code} {Q' : Exit → Env → List Blk → RowsA → Prop} (h : AWP P G n k0 m0 c Q' env σ R) (hq : ∀ e env σ R, Q' e env σ R → Q e env σ R) : AWP P G n k0 m0 c Q env σ R :=
  fun X0 X a h0 hk hm hE hI he => wp_mono (h X0 X a h0 hk hm hE hI he) fun e a' w' ⟨X', env', σ', R', k1, k2⟩ => ⟨X', env', σ', R', hq _ _ _ _ k1, k2⟩

/-! ### What a value may be taken for -/
def LV.wk : LV → LV → Prop
  | .slice .cap0 _ _, .slice .shared _ e' => e' = []
  | .slice (.row _) sz e, .slice .shared sz' e' => sz = sz' ∧ e = e'
  | x, y => x = y
theorem LV.wk_rfl (x : LV) : x.wk x := by
  cases x with
  | slice own sz e => cases own <;> rfl
  | _ => rfl
theorem wk_sound {x y : LV} {r : Value} (h : x.wk y) (hr : RepL X x r) : RepL X y r := by
  unfold LV.wk at h
  split at h
  · subst h
    obtain ⟨_, ad, rfl⟩ := hr
    exact Rep.slice [] ad 0 0 0 _ (fun _ _ => Go.undef) (Nat.le_refl _) (by simp [maxLen]) (by simp) (.inl rfl) (by simp) (by simp)
  · obtain ⟨rfl, rfl⟩ := h
    exact rep_slice hr
  · subst h; exact hr
def wkL : List LV → List LV → Prop
  | [], [] => True
  | x :: xs, y :: ys => x.wk y ∧ wkL xs ys
  | _, _ => False
theorem wkL_spec : ∀ {xs ys : List LV}, wkL xs ys → xs.length = ys.length ∧ ∀ (j : Nat) (y : LV), ys[j]? = some y → ∃ x, xs[j]? = some x ∧ x.wk y
  | [], [], _ => ⟨rfl, by simp⟩
  | x :: xs, y :: ys, h => by
    obtain ⟨k1, k2⟩ := wkL_spec h.2
    refine ⟨by simp [k1], fun j z hj => ?_⟩
    cases j with
    | zero => simp at hj; subst hj; exact ⟨x, rfl, h.1⟩
    | succ j => simpa using k2 j z (by simpa using hj)
  | [], y :: ys, h => h.elim
  | x :: xs, [], h => h.elim
def AV.wk1 : AV → AV → Prop
  | .l x, .l y => x.wk y
  | .agg xs, .agg ys => wkL xs ys
  | .undef, .undef => True
  | _, _ => False
def wkT : List AV → List AV → Prop
  | [], [] => True
  | x :: xs, y :: ys => x.wk1 y ∧ wkT xs ys
  | _, _ => False
def AV.wk : AV → AV → Prop
  | .tup xs, .tup ys => wkT xs ys
  | x, y => x.wk1 y
theorem wk1_sound {x y : AV} {r : Value} (h : x.wk1 y) (hr : Rep1 X x r) : Rep1 X y r := by
  cases x <;> cases y <;> simp only [AV.wk1] at h
  · exact wk_sound h hr
  · obtain ⟨rs, rfl, hl, hc⟩ := hr
    obtain ⟨k1, k2⟩ := wkL_spec h
    refine ⟨rs, rfl, by omega, fun j y hj => ?_⟩
    obtain ⟨x, hx, hw⟩ := k2 j y hj
    obtain ⟨u, h1, h2⟩ := hc j x hx
    exact ⟨u, h1, wk_sound hw h2⟩
  · exact hr
theorem wkT_spec : ∀ {xs ys : List AV}, wkT xs ys → xs.length = ys.length ∧ ∀ (j : Nat) (y : AV), ys[j]? = some y → ∃ x, xs[j]? = some x ∧ x.wk1 y
  | [], [], _ => ⟨rfl, by simp⟩
  | x :: xs, y :: ys, h => by
    obtain ⟨k1, k2⟩ := wkT_spec h.2
    refine ⟨by simp [k1], fun j z hj => ?_⟩
    cases j with
    | zero => simp at hj; subst hj; exact ⟨x, rfl, h.1⟩
    | succ j => simpa using k2 j z (by simpa using hj)
  | [], y :: ys, h => h.elim
  | x :: xs, [], h => h.elim
theorem wkA_sound {x y : AV} {r : Value} (h : x.wk y) (hr : RepV X x r) : RepV X y r := by
  unfold AV.wk at h
  split at h
  · obtain ⟨rs, rfl, hl, hc⟩ := hr
    obtain ⟨k1, k2⟩ := wkT_spec h
    refine ⟨rs, rfl, by omega, fun j y hj => ?_⟩
    obtain ⟨x, hx, hw⟩ := k2 j y hj
    obtain ⟨u, h1, h2⟩ := hc j x hx
    exact ⟨u, h1, wk1_sound hw h2⟩
  · cases x <;> cases y <;> first | exact wk1_sound (x := .l _) (y := .l _) h hr | exact wk1_sound (x := .agg _) (y := .agg _) h hr | exact hr | exact h.elim
end
end Go.Abs
