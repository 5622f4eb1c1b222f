/-
  WALKING: slots that are kept, loops and joins by what changes, calls of a known kind, rows that are begun, orders by their plan.
-/
import Derived.Test.YtajeoodipplmlaaDoorAbs16
set_option linter.all false
namespace Go.Abs
open Go Go.RowKit

section
variable {P : Program} {G : Nat → Option (List LV)} {H Hl He : Nat → Bool} {σ : List Blk} {R : RowsA} {env : Env} {ops : Array Oper} {K K' : AV → List Blk → RowsA → Prop}

theorem ack_mono {f : FuncId} {args : List AV} (h : ∀ v s r, K v s r → K' v s r) (hk : ACK P G He f args σ R K) : ACK P G He f args σ R K' :=
  ⟨hk.1, fun X argsV hI hl hr => (hk.2 X argsV hI hl hr).mono fun e w' ⟨res, r, σ', R', X', h1, h2, h3⟩ => ⟨res, r, σ', R', X', h1, h _ _ _ h2, h3⟩⟩

theorem fin_mono {r : Option (Prop × AV)} (h : ∀ v s r, K v s r → K' v s r) (hk : fin r σ R K) : fin r σ R K' := by
  cases r with
  | none => exact hk
  | some r => exact ⟨hk.1, h _ _ _ hk.2⟩

theorem append_mono {t : TypeId} {x y : AV} (h : ∀ v s r, K v s r → K' v s r) (hk : appendA P t σ R K x y) : appendA P t σ R K' x y := by
  unfold appendA at hk ⊢
  split at hk
  · split at hk
    · exact ⟨hk.1, hk.2.1, hk.2.2.1, hk.2.2.2.1, hk.2.2.2.2.1, hk.2.2.2.2.2.1, hk.2.2.2.2.2.2.1, h _ _ _ hk.2.2.2.2.2.2.2⟩
    · exact hk.elim
  · split at hk
    · exact ⟨hk.1, hk.2.1, hk.2.2.1, hk.2.2.2.1, hk.2.2.2.2.1, hk.2.2.2.2.2.1, h _ _ _ hk.2.2.2.2.2.2⟩
    · exact hk.elim
  · exact hk.elim

theorem aop_mono {op : Op} (h : ∀ v s r, K v s r → K' v s r) (hk : aop P G Hl He env σ R K op) : aop P G Hl He env σ R K' op := by
  unfold aop at hk ⊢
  split at hk
  · split at hk
    · exact h _ _ _ hk
    · exact hk.elim
  · split at hk
    · exact ⟨hk.1, h _ _ _ hk.2⟩
    · exact hk.elim
  · split at hk
    · split at hk
      · exact ⟨hk.1, hk.2.1, hk.2.2.1, hk.2.2.2.1, h _ _ _ hk.2.2.2.2⟩
      · exact hk.elim
    · exact hk.elim
  · split at hk
    · split at hk
      · refine ⟨hk.1, hk.2.1, hk.2.2.1, hk.2.2.2.1, ?_⟩
        have hk := hk.2.2.2.2
        split at hk
        · exact h _ _ _ hk
        · exact ⟨hk.1, h _ _ _ hk.2⟩
      · split at hk
        · obtain ⟨h1, h2, h3, h4, h5, h6, h7⟩ := hk
          exact ⟨h1, h2, h3, h4, h5, h6, h _ _ _ h7⟩
        · exact hk.elim
    · exact hk.elim
  · split at hk
    · split at hk
      · obtain ⟨h1, h2, h3, h4⟩ := hk
        exact ⟨h1, h2, h3, h _ _ _ h4⟩
      · exact hk.elim
    · split at hk
      · obtain ⟨h1, h2, h3, h4⟩ := hk
        exact ⟨h1, h2, h3, h _ _ _ h4⟩
      · exact hk.elim
    · exact fin_mono (r := arrAddrV _ _ _ _ _) h hk
    · exact hk.elim
  · split at hk
    · split at hk
      · exact ⟨fun he => h _ _ _ (hk.1 he), h _ _ _ hk.2⟩
      · exact ⟨fun he => h _ _ _ (hk.1 he), h _ _ _ hk.2⟩
      · exact hk.elim
    · exact fin_mono (r := pv _ _ _ _ _ _) h hk
  · split at hk
    · split at hk
      · exact ack_mono h hk
      · exact ack_mono h hk
      · exact hk.elim
    · split at hk
      · exact ⟨hk.1, append_mono h hk.2⟩
      · exact hk.elim
    · exact fin_mono (r := pv _ _ _ _ _ _) h hk
  · exact fin_mono (r := pv _ _ _ _ _ _) h hk

theorem astep_mono {o : Oper} (h : ∀ v s r, K v s r → K' v s r) (hk : astep P G Hl He ops env σ R o K) : astep P G Hl He ops env σ R o K' := by
  unfold astep at hk ⊢
  split at hk
  · exact aop_mono h hk
  · split at hk
    · exact hk.elim
    · split at hk
      · split at hk
        · exact ⟨hk.1, h _ _ _ hk.2⟩
        · exact hk.elim
      · exact ⟨fun hg => aop_mono (fun v s r hv => hv.imp (h v s r) fun hv => ⟨hv.1, h _ _ _ hv.2⟩) (hk.1 hg), fun hg => let ⟨u, h1, h2⟩ := hk.2 hg; ⟨u, h1, h _ _ _ h2⟩⟩

theorem earlyV_mono {K K' : AV → Prop} {op : Op} (h : ∀ v, K v → K' v) (hk : earlyV P G H env σ K op) : earlyV P G H env σ K' op := by
  unfold earlyV at hk ⊢
  split at hk
  · exact ⟨hk.1, h _ hk.2⟩
  · split at hk
    · split at hk
      · split at hk
        · obtain ⟨h1, h2, h3, h4⟩ := hk
          exact ⟨h1, h2, h3, h _ h4⟩
        · exact hk.elim
      · exact hk.elim
    · exact hk.elim

theorem early_mono {K K' : AV → Prop} {o : Oper} (h : ∀ v, K v → K' v) (hk : early P G H ops env σ o K) : early P G H ops env σ o K' := by
  unfold early at hk ⊢
  split at hk
  · exact earlyV_mono h hk
  · split at hk
    · exact hk.elim
    · split at hk
      · split at hk
        · exact ⟨hk.1, h _ hk.2⟩
        · exact hk.elim
      · exact ⟨fun hg => earlyV_mono (fun v hv => hv.imp (h v) fun hv => ⟨hv.1, h _ hv.2⟩) (hk.1 hg), fun hg => let ⟨u, h1, h2⟩ := hk.2 hg; ⟨u, h1, h _ h2⟩⟩
end

def keepT : List Nat → Env → Env
  | [], _ => []
  | t :: ts, env => match envGet env t with
    | some v => (t, v) :: keepT ts env
    | none => keepT ts env

section
variable {P : Program} {G : Nat → Option (List LV)} {H Hl He : Nat → Bool} {X X' : Ctx} {σ : List Blk} {R : RowsA} {n k m k0 m0 : Nat} {ks : List Nat} {env : Env} {a : Act} {ops : Array Oper}
variable {Q : Exit → Env → List Blk → RowsA → Prop}

theorem keepT_get : ∀ (ts : List Nat) (t : Nat) (v : AV), envGet (keepT ts env) t = some v → envGet env t = some v
  | [], t, v, h => by simp [keepT, envGet] at h
  | s :: ts, t, v, h => by
    simp only [keepT] at h
    split at h
    · rename_i u hu
      simp only [envGet] at h
      split at h
      · rename_i hst; subst hst; rw [hu]; exact h
      · exact keepT_get ts t v h
    · exact keepT_get ts t v h

theorem awp_env {c : Code} {env' : Env} (hs : ∀ t v, envGet env' t = some v → envGet env t = some v) (h : AWP P G n k0 m0 c Q env' σ R) : AWP P G n k0 m0 c Q env σ R :=
  fun X0 X a h0 hk hm hE hI he => h X0 X a h0 hk hm hE hI ⟨he.1, he.2.1, fun t v ht => he.2.2 t v (hs t v ht)⟩
theorem awp_keep {c : Code} (ts : List Nat) (h : AWP P G n k0 m0 c Q (keepT ts env) σ R) : AWP P G n k0 m0 c Q env σ R := awp_env (keepT_get ts) h

/-- What is said less of. -/
def Lss (k0 m0 k : Nat) (ks : List Nat) (env env' : Env) (σ σ' : List Blk) (R R' : RowsA) : Prop :=
  envSub env k ks env' ∧ wkS ks (σ.take k) σ' ∧ clS k ks.length σ' = true ∧ k0 ≤ k ∧ k ≤ σ.length ∧ Keeps m0 R.length ks = true ∧ selR R ks = R'
theorem Lss.less {env' : Env} {σ' : List Blk} {R' : RowsA} (h : Lss k0 m0 k ks env env' σ σ' R R') : Less k0 m0 k ks env env' σ σ' R ∧ selR R ks = R' :=
  ⟨⟨h.2.2.2.1, h.2.2.2.2.1, h.2.2.2.2.2.1, h.1, h.2.1, h.2.2.1⟩, h.2.2.2.2.2.2⟩

theorem awp_lss {c : Code} {env' : Env} {σ' : List Blk} {R' : RowsA} (ks : List Nat) (hl : Lss k0 m0 σ'.length ks env env' σ σ' R R') (h : AWP P G n k0 m0 c Q env' σ' R') : AWP P G n k0 m0 c Q env σ R := by
  obtain ⟨h1, h2⟩ := hl.less
  subst h2
  exact awp_less _ ks env' σ' h1 h

/-- What a loop's head, or a meeting, holds: the told slots, and those of the rest that are kept. -/
structure Head (α : Type) where
  Pre : α → Prop
  V : α → Env
  S : α → List Blk
  R : α → RowsA

def Meets (k0 m0 : Nat) {α : Type} (Pre : α → Prop) (V : α → Env) (S : α → List Blk) (Rr : α → RowsA) (cs : List Nat) (env0 : Env) (env : Env) (σ : List Blk) (R : RowsA) : Prop :=
  ∃ (x : α) (ks : List Nat), Lss k0 m0 (S x).length ks env (V x ++ keepT cs env0) σ (S x) R (Rr x) ∧ Pre x

theorem awp_loopE {α : Type} {c : Code} (Pre : α → Prop) (M : α → Nat) (V : α → Env) (S : α → List Blk) (Rr : α → RowsA) (cs : List Nat) (x : α) (ks : List Nat)
    (hl : Lss k0 m0 (S x).length ks env (V x ++ keepT cs env) σ (S x) R (Rr x)) (hp : Pre x)
    (round : ∀ x, Pre x → ∀ K : Env → List Blk → RowsA → Prop, (∀ env' σ' R', Meets k0 m0 (fun y => Pre y ∧ M y < M x) V S Rr cs env env' σ' R' → K env' σ' R') → AWP P G n k0 m0 c (thenA K Q) (V x ++ keepT cs env) (S x) (Rr x)) : AWP P G n k0 m0 (.loop c) Q env σ R := by
  refine awp_lss ks hl ?_
  refine awp_loop (fun j env' σ' R' => ∃ y, Pre y ∧ M y = j ∧ env' = V y ++ keepT cs env ∧ σ' = S y ∧ R' = Rr y) (M x) ⟨x, hp, rfl, rfl, rfl, rfl⟩ ?_
  rintro j env' σ' R' ⟨y, hy, rfl, rfl, rfl, rfl⟩
  refine round y hy _ ?_
  rintro env2 σ2 R2 ⟨z, ks', hz, hpz, hm⟩
  obtain ⟨h1, h2⟩ := hz.less
  exact ⟨M z, (S z).length, ks', _, _, hm, h1, z, hpz, rfl, rfl, rfl, h2⟩

theorem awp_joinE {α : Type} {x y : Code} (Pre : α → Prop) (V : α → Env) (S : α → List Blk) (Rr : α → RowsA) (cs : List Nat)
    (h : ∀ K : Env → List Blk → RowsA → Prop, (∀ env' σ' R', Meets k0 m0 Pre V S Rr cs env env' σ' R' → K env' σ' R') → AWP P G n k0 m0 x (thenA K Q) env σ R)
    (hJ : ∀ z, Pre z → AWP P G n k0 m0 y Q (V z ++ keepT cs env) (S z) (Rr z)) : AWP P G n k0 m0 (.seq x y) Q env σ R := by
  refine awp_seq (h _ ?_)
  rintro env' σ' R' ⟨z, ks, hz, hp⟩
  exact awp_lss ks hz (hJ z hp)

/-! ### Rows that are begun -/
theorem row_begin {X : Ctx} {z sz : Nat} {T : TypeId} {r : Value} (h : RepL X (.slice .cap0 z []) r) : RepL { X with rows := X.rows ++ [⟨none, sz, T, 0⟩] } (.slice (.row X.rows.length) sz []) r := by
  obtain ⟨_, ad, rfl⟩ := h
  refine ⟨Rep.slice [] ad 0 0 0 _ (fun _ _ => Go.undef) (Nat.le_refl _) (by simp [maxLen]) (by simp) (.inl rfl) (by simp) (by simp), ⟨none, sz, T, 0⟩, by simp, by simp, fun _ => .inl ⟨rfl, ad, rfl⟩⟩

theorem awp_begin {c : Code} (t : Nat) (T : TypeId) (sz : Nat) {z : Nat} (hg : envGet env t = some (.l (.slice .cap0 z []))) (h : AWP P G n k0 m0 c Q ((t, .l (.slice (.row R.length) sz [])) :: env) σ (R ++ [(T, 0)])) : AWP P G n k0 m0 c Q env σ R := by
  intro X0 X a h0 hk hm hE hI he
  have hrl : X.rows.length = R.length := by rw [← hI.rowsR]; simp
  obtain ⟨e, hI'⟩ := hI.emptyRow T sz
  obtain ⟨σ0, R0, hI0⟩ := h0
  refine h X0 { X with rows := X.rows ++ [⟨none, sz, T, 0⟩] } a ⟨σ0, R0, hI0⟩ hk hm (hE.trans hI0 e) hI' ⟨he.1, he.2.1, fun s v hs => ?_⟩
  simp only [envGet] at hs
  split at hs
  · rename_i hts
    subst hts
    obtain rfl := Option.some.inj hs
    obtain ⟨r, r1, r2⟩ := he.2.2 t _ hg
    exact ⟨r, r1, by rw [← hrl]; exact row_begin (z := z) r2⟩
  · obtain ⟨r, r1, r2⟩ := he.2.2 s v hs
    exact ⟨r, r1, e.repV hI r2⟩

/-! ### Lengths -/
theorem rep_len {own : Own} {sz : Nat} {e : List (List LV)} {r : Value} (h : RepL X (.slice own sz e) r) : e.length ≤ 9223372036854775807 := by
  obtain ⟨ad, cap, b, o, vf, _, h1, h2, _⟩ := slice_form (rep_slice h)
  simp only [maxLen] at h2
  omega
theorem awp_len {c : Code} (t : Nat) {own : Own} {sz : Nat} {e : List (List LV)} (hg : envGet env t = some (.l (.slice own sz e))) (h : e.length ≤ 9223372036854775807 → AWP P G n k0 m0 c Q env σ R) : AWP P G n k0 m0 c Q env σ R := by
  intro X0 X a h0 hk hm hE hI he
  obtain ⟨r, r1, r2⟩ := he.2.2 t _ hg
  exact h (rep_len r2) X0 X a h0 hk hm hE hI he
theorem awp_lenAgg {c : Code} (t j : Nat) {own : Own} {sz : Nat} {e : List (List LV)} {cells : List LV} (hg : envGet env t = some (.agg cells)) (hj : cells[j]? = some (.slice own sz e)) (h : e.length ≤ 9223372036854775807 → AWP P G n k0 m0 c Q env σ R) : AWP P G n k0 m0 c Q env σ R := by
  intro X0 X a h0 hk hm hE hI he
  obtain ⟨r, r1, rs, _, _, h2⟩ := he.2.2 t _ hg
  obtain ⟨u, _, h3⟩ := h2 j _ hj
  exact h (rep_len h3) X0 X a h0 hk hm hE hI he

/-! ### Calls -/
/-- A call that comes to just this. -/
def ACX (P : Program) (G : Nat → Option (List LV)) (f : FuncId) (args : List AV) (σ : List Blk) (R : RowsA) (res : AV) (σ' : List Blk) (R' : RowsA) : Prop :=
  ACK P G (fun _ => false) f args σ R fun r s q => r = res ∧ s = σ' ∧ q = R'

theorem acall_x {f : FuncId} {args args' : List AV} {K : AV → List Blk → RowsA → Prop} {σc σ' : List Blk} {Rc R' : RowsA} {res : AV} (hc : ACX P G f args' σc Rc res σ' R') (is ks : List Nat) (hnis : is.Nodup) (hnks : ks.Nodup)
    (hH : ∀ i ∈ is, He i = false) (hargs : wkT args (args'.map (·.rn1 is ks σ.length R.length))) (hσ : subS σ (·.rn is ks σ.length R.length) is σc) (hR : subR R ks Rc)
    (hK : K (res.rn is ks σ.length R.length) (setMany σ is (σ'.map (·.rn is ks σ.length R.length)) ++ (σ'.drop is.length).map (·.rn is ks σ.length R.length)) (setMany R ks R' ++ R'.drop ks.length)) :
    ACK P G He f args σ R K :=
  acall_frame hc is ks hnis hnks hargs hσ hR hH fun _ _ _ ⟨h1, h2, h3⟩ => by subst h1 h2 h3; exact hK

theorem acall_p {f : FuncId} {args args' : List AV} {K : AV → List Blk → RowsA → Prop} {res : AV} (hc : ACX P G f args' [] [] res [] []) (hargs : wkT args (args'.map (·.rn1 [] [] σ.length R.length)))
    (hK : K (res.rn [] [] σ.length R.length) σ R) : ACK P G He f args σ R K :=
  acall_x hc [] [] List.nodup_nil List.nodup_nil (by simp) hargs trivial trivial (by simpa [setMany] using hK)

theorem ret_x {rs : Array ResultVar} {e : Exit} {res res' : AV} {σ' : List Blk} {R' : RowsA} (ks : List Nat) (he : e = .normal ∨ e = .ret) (hr : resA P rs env σ = some res) (hw : res.wk (res'.rnR ks)) (hc : res'.cl σ'.length ks.length = true)
    (hs : wkS ks (σ.take σ'.length) σ') (hcs : clS σ'.length ks.length σ' = true) (hk0 : k0 ≤ σ'.length) (hk : σ'.length ≤ σ.length) (hm : Keeps m0 R.length ks = true) (hR : selR R ks = R') :
    RetOk P rs (fun r s q => r = res' ∧ s = σ' ∧ q = R') k0 m0 e env σ R :=
  ⟨he, res, res', σ'.length, ks, σ', hr, hw, hc, hk0, hk, hm, hs, hcs, rfl, rfl, hR⟩
theorem keeps_nil (n : Nat) : Keeps 0 n [] = true := rfl
theorem ret_p {rs : Array ResultVar} {e : Exit} {res res' : AV} (he : e = .normal ∨ e = .ret) (hr : resA P rs env σ = some res) (hw : res.wk (res'.rnR [])) (hc : res'.cl 0 0 = true) :
    RetOk P rs (fun r s q => r = res' ∧ s = [] ∧ q = []) 0 0 e env σ R :=
  ret_x [] he hr hw hc (by simp [wkS]) rfl (Nat.le_refl _) (Nat.zero_le _) (keeps_nil _) rfl

/-! ### An element -/
theorem Ix.intro {N : Int} {e : List (List LV)} {K : List LV → Prop} (c : List LV) (h0 : 0 ≤ N) (h : e[N.toNat]? = some c) (hK : K c) : Ix N e K := by
  obtain ⟨hl, he⟩ := List.getElem?_eq_some_iff.1 h
  exact ⟨⟨h0, hl⟩, by rw [he]; exact hK⟩
theorem ix_map {α : Type} {f : α → List LV} {l : List α} {N : Int} {K : List LV → Prop} (i : Nat) (hN : N = i) (hi : i < l.length) (hK : K (f l[i])) : Ix N (l.map f) K :=
  Ix.intro (f l[i]) (by omega) (by subst hN; simp [hi]) hK

end
end Go.Abs
