/-
  A FUNCTION: its entry, its results, what it hands back of variables and rows ('acalls_intro').
-/
import Derived.Test.YtajeoodipplmlaaDoorAbs12
set_option linter.all false
namespace Go.Abs
open Go Go.RowKit

/-- A value that names only the first k variables and m rows. -/
def LV.cl (k m : Nat) : LV → Bool
  | .ptr i _ => decide (i < k)
  | .fn _ caps => caps.all fun c => decide (c.1 < k)
  | .mfn _ i _ => decide (i < k)
  | .vsl i _ _ _ => decide (i < k)
  | .slice (.row i) _ _ => decide (i < m)
  | _ => true
def AV.cl1 (k m : Nat) : AV → Bool
  | .l x => x.cl k m
  | .agg xs => xs.all (·.cl k m)
  | .undef => true
  | _ => false
def AV.cl (k m : Nat) : AV → Bool
  | .tup xs => xs.all (·.cl1 k m)
  | x => x.cl1 k m

def rowGet (rs : List Row) (i : Nat) : Row := (rs[i]?).getD ⟨none, 0, 0, 0⟩
def Ctx.trim (X : Ctx) (k : Nat) (ks : List Nat) : Ctx := { X with mu := X.mu.take k, rows := ks.map (rowGet X.rows) }
/-- The rows that are kept. -/
def selR (R : RowsA) (ks : List Nat) : RowsA := ks.map fun i => (R[i]?).getD (0, 0)
/-- A value's rows, as they were numbered before the others went. -/
def LV.rnR (ks : List Nat) : LV → LV
  | .slice (.row i) sz e => .slice (.row ((ks[i]?).getD 0)) sz e
  | x => x
def AV.rnR1 (ks : List Nat) : AV → AV
  | .l x => .l (x.rnR ks)
  | .agg xs => .agg (xs.map (·.rnR ks))
  | x => x
def AV.rnR (ks : List Nat) : AV → AV
  | .tup xs => .tup (xs.map (·.rnR1 ks))
  | x => x.rnR1 ks
def Keeps (m0 n : Nat) (ks : List Nat) : Bool := decide ks.Nodup && ks.all (fun i => decide (i < n)) && decide (ks.take m0 = List.range m0)

section
variable {P : Program} {G : Nat → Option (List LV)} {H Hl He : Nat → Bool} {X X' : Ctx} {σ : List Blk} {R : RowsA} {n k m m0 : Nat} {ks : List Nat} {env : Env} {a : Act}

theorem take_get {α : Type} {l : List α} {k i : Nat} {x : α} (h : (l.take k)[i]? = some x) : l[i]? = some x ∧ i < k := by
  rw [List.getElem?_take] at h
  split at h
  · exact ⟨h, by assumption⟩
  · cases h

theorem keeps_spec (h : Keeps m0 n ks = true) : ks.Nodup ∧ (∀ i ∈ ks, i < n) ∧ ks.take m0 = List.range m0 := by
  simp only [Keeps, Bool.and_eq_true, decide_eq_true_eq, List.all_eq_true] at h
  exact ⟨h.1.1, h.1.2, h.2⟩

theorem trim_row {i : Nat} {r : Row} (hk : ∀ i ∈ ks, i < X.rows.length) (h : (X.trim k ks).rows[i]? = some r) : ∃ j, ks[i]? = some j ∧ X.rows[j]? = some r := by
  simp only [Ctx.trim, List.getElem?_map, Option.map_eq_some_iff] at h
  obtain ⟨j, h1, h2⟩ := h
  have hl := hk j (List.mem_of_getElem? h1)
  refine ⟨j, h1, ?_⟩
  rw [List.getElem?_eq_getElem hl]
  simp only [rowGet, List.getElem?_eq_getElem hl, Option.getD_some] at h2
  rw [h2]
theorem trim_row_mk {i j : Nat} {r : Row} (h1 : ks[i]? = some j) (h2 : X.rows[j]? = some r) : (X.trim k ks).rows[i]? = some r := by
  simp [Ctx.trim, h1, rowGet, h2]

theorem trim_rd (hk : ∀ i ∈ ks, i < X.rows.length) {b o : Nat} {v : Value} (h : X.Rd b o v) : (X.trim k ks).Rd b o v := by
  obtain ⟨h1, h2, h3, h4⟩ := h
  refine ⟨h1, fun hb => h2 (List.mem_of_mem_take hb), ?_, h4⟩
  rintro ⟨i, r, hr, hb, hle⟩
  obtain ⟨j, _, hj⟩ := trim_row hk hr
  exact h3 ⟨j, r, hj, hb, hle⟩

theorem trim_repL (hk : ∀ i ∈ ks, i < X.rows.length) {x : LV} {r : Value} (hc : x.cl k ks.length = true) (hr : RepL X (x.rnR ks) r) : RepL (X.trim k ks) x r := by
  have mono : ∀ {y : LV} {q : Value}, Rep X.Rd y q → Rep (X.trim k ks).Rd y q := fun h => h.mono fun _ _ _ => trim_rd hk
  cases x with
  | ptr i off =>
    obtain ⟨b, hb, rfl⟩ := hr
    simp only [LV.cl, decide_eq_true_eq] at hc
    exact ⟨b, by simp only [Ctx.trim]; rw [List.getElem?_take, if_pos hc]; exact hb, rfl⟩
  | eptr cells off =>
    obtain ⟨b, o, rfl, h⟩ := hr
    refine ⟨b, o, rfl, fun j x hx => ?_⟩
    obtain ⟨u, h1, h2⟩ := h j x hx
    exact ⟨u, trim_rd hk h1, mono h2⟩
  | slice own sz e =>
    cases own with
    | shared => exact mono hr
    | cap0 => exact hr
    | row i =>
      simp only [LV.cl, decide_eq_true_eq] at hc
      obtain ⟨h1, q, hq, h2, h3⟩ := hr
      rw [List.getElem?_eq_getElem hc, Option.getD_some] at hq
      exact ⟨mono h1, q, trim_row_mk (List.getElem?_eq_getElem hc) hq, h2, h3⟩
  | fn f caps =>
    obtain ⟨rs, rfl, hl, h⟩ := hr
    refine ⟨rs, rfl, hl, fun j c hj => ?_⟩
    obtain ⟨b, hb, hv⟩ := h j c hj
    simp only [LV.cl, List.all_eq_true, decide_eq_true_eq] at hc
    exact ⟨b, by simp only [Ctx.trim]; rw [List.getElem?_take, if_pos (hc c (List.mem_of_getElem? hj))]; exact hb, hv⟩
  | mfn f i off =>
    obtain ⟨b, hb, rfl⟩ := hr
    simp only [LV.cl, decide_eq_true_eq] at hc
    exact ⟨b, by simp only [Ctx.trim]; rw [List.getElem?_take, if_pos hc]; exact hb, rfl⟩
  | vsl i off sz len =>
    obtain ⟨b, cap, hb, h1⟩ := hr
    simp only [LV.cl, decide_eq_true_eq] at hc
    exact ⟨b, cap, by simp only [Ctx.trim]; rw [List.getElem?_take, if_pos hc]; exact hb, h1⟩
  | int k n => exact mono hr
  | bool b => exact mono hr
  | str l => exact mono hr
  | nilp => exact mono hr

theorem trim_rep1 (hk : ∀ i ∈ ks, i < X.rows.length) {x : AV} {r : Value} (hc : x.cl1 k ks.length = true) (hr : Rep1 X (x.rnR1 ks) r) : Rep1 (X.trim k ks) x r := by
  cases x with
  | l x => exact trim_repL hk hc hr
  | agg xs =>
    obtain ⟨rs, rfl, hl, h⟩ := hr
    simp only [AV.cl1, List.all_eq_true] at hc
    exact ⟨rs, rfl, by simpa using hl, fun j x hx => let ⟨u, h1, h2⟩ := h j (x.rnR ks) (by simp [hx]); ⟨u, h1, trim_repL hk (hc x (List.mem_of_getElem? hx)) h2⟩⟩
  | undef => exact hr
  | tup xs => cases hc
  | ifb c v => cases hc
theorem trim_repV (hk : ∀ i ∈ ks, i < X.rows.length) {x : AV} {r : Value} (hc : x.cl k ks.length = true) (hr : RepV X (x.rnR ks) r) : RepV (X.trim k ks) x r := by
  cases x with
  | tup xs =>
    obtain ⟨rs, rfl, hl, h⟩ := hr
    simp only [AV.cl, List.all_eq_true] at hc
    exact ⟨rs, rfl, by simpa using hl, fun j x hx => let ⟨u, h1, h2⟩ := h j (x.rnR1 ks) (by simp [hx]); ⟨u, h1, trim_rep1 hk (hc x (List.mem_of_getElem? hx)) h2⟩⟩
  | l x => exact trim_rep1 (x := .l x) hk hc hr
  | agg x => exact trim_rep1 (x := .agg x) hk hc hr
  | undef => exact hr
  | ifb c v => cases hc

def clS (k m : Nat) (σ : List Blk) : Bool := σ.all fun B => B.cells.all (·.cl k m)
/-- Variables as they may be taken, their rows numbered anew. -/
def wkS (ks : List Nat) : List Blk → List Blk → Prop
  | [], [] => True
  | B :: σ, B' :: σ' => B.T = B'.T ∧ wkL B.cells (B'.cells.map (·.rnR ks)) ∧ wkS ks σ σ'
  | _, _ => False
theorem wkS_spec : ∀ {σ σ' : List Blk}, wkS ks σ σ' → σ.length = σ'.length ∧ ∀ (j : Nat) (B' : Blk), σ'[j]? = some B' → ∃ B, σ[j]? = some B ∧ B.T = B'.T ∧ wkL B.cells (B'.cells.map (·.rnR ks))
  | [], [], _ => ⟨rfl, by simp⟩
  | B :: σ, B' :: σ', h => by
    obtain ⟨k1, k2⟩ := wkS_spec h.2.2
    refine ⟨by simp [k1], fun j z hj => ?_⟩
    cases j with
    | zero => simp at hj; subst hj; exact ⟨B, rfl, h.1, h.2.1⟩
    | succ j => simpa using k2 j z (by simpa using hj)
  | [], y :: ys, h => h.elim
  | x :: xs, [], h => h.elim
theorem wkL_rfl : ∀ (xs : List LV), wkL xs xs
  | [] => trivial
  | x :: xs => ⟨x.wk_rfl, wkL_rfl xs⟩

theorem Inv.trim (hI : Inv G X σ R) {σ' : List Blk} (hk : k ≤ σ.length) (hks : Keeps m0 R.length ks = true) (hw : wkS ks (σ.take k) σ') (hcl : clS k ks.length σ' = true) : Inv G (X.trim k ks) σ' (selR R ks) := by
  obtain ⟨w1, w2⟩ := wkS_spec hw
  obtain ⟨q1, q2, q3⟩ := keeps_spec hks
  have hrl : X.rows.length = R.length := by rw [← hI.rowsR]; simp
  have hkl : ∀ i ∈ ks, i < X.rows.length := fun i hi => by rw [hrl]; exact q2 i hi
  exact
    { muLen := by simp only [Ctx.trim]; rw [← w1]; simp [hI.muLen]
      nodup := hI.nodup.sublist (List.take_sublist _ _)
      blk := fun i B b hB hb => by
        obtain ⟨B0, hB0, hT, hwk⟩ := w2 i B hB
        obtain ⟨hB0, hik⟩ := take_get hB0
        simp only [Ctx.trim] at hb
        obtain ⟨hb, _⟩ := take_get hb
        obtain ⟨cs, h1, h2, h3⟩ := hI.blk i B0 b hB0 hb
        obtain ⟨l1, l2⟩ := wkL_spec hwk
        refine ⟨cs, by rw [← hT]; exact h1, by rw [h2, l1]; simp, fun j y hj => ?_⟩
        obtain ⟨x, hx, hxy⟩ := l2 j (y.rnR ks) (by simp [hj])
        obtain ⟨r, r1, r2⟩ := h3 j x hx
        refine ⟨r, r1, trim_repL hkl ?_ (wk_sound hxy r2)⟩
        simp only [clS, List.all_eq_true] at hcl
        exact hcl B (List.mem_of_getElem? hB) y (List.mem_of_getElem? hj)
      rowsR := by
        simp only [Ctx.trim, selR, List.map_map]
        apply List.map_congr_left
        intro i hi
        have hl := hkl i hi
        have h1 := hI.rowsR
        simp only [Function.comp, rowGet, List.getElem?_eq_getElem hl, Option.getD_some]
        rw [← h1]
        simp [hl]
      row := fun i r b hr hb => by
        obtain ⟨j, _, hj⟩ := trim_row hkl hr
        obtain ⟨h1, h2, h3, h4⟩ := hI.row j r b hj hb
        exact ⟨fun hm => h1 (List.mem_of_mem_take hm), h2, h3, h4⟩
      row0 := fun i r hr hb => by
        obtain ⟨j, _, hj⟩ := trim_row hkl hr
        exact hI.row0 j r hj hb
      inj := fun i j r q b hr hq hrb hqb => by
        obtain ⟨i', hi, hi'⟩ := trim_row hkl hr
        obtain ⟨j', hj, hj'⟩ := trim_row hkl hq
        have := hI.inj i' j' r q b hi' hj' hrb hqb
        subst this
        exact nodup_get q1 hi hj
      zlt := hI.zlt
      glob := fun g cells hg j x hx => let ⟨u, h1, h2⟩ := hI.glob g cells hg j x hx; ⟨u, trim_rd hkl h1, h2.mono fun _ _ _ => trim_rd hkl⟩ }

theorem Evo.trim {X0 : Ctx} (hrl : X.rows.length = R.length) (e : Evo X0 X) (hk : X0.mu.length ≤ k) (hm : X0.rows.length = m0) (hks : Keeps m0 R.length ks = true) : Evo X0 (X.trim k ks) := by
  obtain ⟨q1, q2, q3⟩ := keeps_spec hks
  have hkl : ∀ i ∈ ks, i < X.rows.length := fun i hi => by rw [hrl]; exact q2 i hi
  have pre : ∀ i, i < m0 → ks[i]? = some i := fun i hi => by
    have : (ks.take m0)[i]? = some i := by rw [q3]; simp [hi]
    exact (take_get this).1
  exact
    { os := e.os, tape := e.tape, output := e.output, size := e.size,
      mu := by
        obtain ⟨news, h1, h2⟩ := e.mu
        refine ⟨news.take (k - X0.mu.length), ?_, fun b hb => h2 b (List.mem_of_mem_take hb)⟩
        simp only [Ctx.trim, h1]
        rw [List.take_append, List.take_of_length_le hk]
      rows := fun i r hr => by
        obtain ⟨r', h1, h2⟩ := e.rows i r hr
        have hi := (List.getElem?_eq_some_iff.1 hr).1
        exact ⟨r', trim_row_mk (pre i (by omega)) h1, h2⟩
      news := fun i r' b hi hr hb => by
        obtain ⟨j, hj, hj'⟩ := trim_row hkl hr
        refine e.news j r' b ?_ hj' hb
        rcases Nat.lt_or_ge j m0 with hlt | hge
        · have := nodup_get q1 hj (pre j hlt)
          omega
        · omega
      Z := e.Z
      mem := e.mem
      memrow := e.memrow }

/-- Slots that are told, of those that are, as they may be taken. -/
def envSub (env : Env) (k : Nat) (ks : List Nat) : Env → Prop
  | [] => True
  | (t, v) :: e => (match envGet env t with
    | some u => u.wk (v.rnR ks) ∧ v.cl k ks.length = true
    | none => False) ∧ envSub env k ks e
theorem envSub_spec : ∀ {e : Env}, envSub env k ks e → ∀ t v, envGet e t = some v → ∃ u, envGet env t = some u ∧ u.wk (v.rnR ks) ∧ v.cl k ks.length = true
  | [], _, t, v, h => by simp [envGet] at h
  | (t', v') :: e, hs, t, v, h => by
    simp only [envGet] at h
    split at h
    · rename_i ht
      subst ht
      obtain rfl := Option.some.inj h
      have h1 := hs.1
      split at h1
      · rename_i u hu; exact ⟨u, hu, h1.1, h1.2⟩
      · exact h1.elim
    · exact envSub_spec hs.2 t v h

theorem EnvOk.trim (hk : ∀ i ∈ ks, i < X.rows.length) (he : EnvOk X n env a) {env' : Env} (hs : envSub env k ks env') : EnvOk (X.trim k ks) n env' a :=
  ⟨he.1, he.2.1, fun t v ht => by
    obtain ⟨u, h1, h2, h3⟩ := envSub_spec hs t v ht
    obtain ⟨r, r1, r2⟩ := he.2.2 t u h1
    exact ⟨r, r1, trim_repV hk h3 (wkA_sound h2 r2)⟩⟩

/-- Less is told: fewer variables, rows and slots. -/
structure Less (k0 m0 k : Nat) (ks : List Nat) (env env' : Env) (σ σ' : List Blk) (R : RowsA) : Prop where
  hk0 : k0 ≤ k
  hk : k ≤ σ.length
  hm : Keeps m0 R.length ks = true
  env : envSub env k ks env'
  blk : wkS ks (σ.take k) σ'
  cl : clS k ks.length σ' = true

theorem awp_less {k0 : Nat} {c : Code} {Q : Exit → Env → List Blk → RowsA → Prop} (k : Nat) (ks : List Nat) (env' : Env) (σ' : List Blk) (hl : Less k0 m0 k ks env env' σ σ' R) (h : AWP P G n k0 m0 c Q env' σ' (selR R ks)) : AWP P G n k0 m0 c Q env σ R :=
  fun X0 X a h0 hk hm hE hI he => by
    have hrl : X.rows.length = R.length := by rw [← hI.rowsR]; simp
    exact h X0 (X.trim k ks) a h0 hk hm (hE.trim hrl (by rw [hk]; exact hl.hk0) hm hl.hm) (hI.trim hl.hk hl.hm hl.blk hl.cl) (he.trim (fun i hi => by rw [hrl]; exact (keeps_spec hl.hm).2.1 i hi) hl.env)

/-- What a round of a loop comes to. -/
def Back (k0 m0 : Nat) (I : Nat → Env → List Blk → RowsA → Prop) (j : Nat) (env : Env) (σ : List Blk) (R : RowsA) : Prop :=
  ∃ j' k ks env' σ', j' < j ∧ Less k0 m0 k ks env env' σ σ' R ∧ I j' env' σ' (selR R ks)

theorem awp_loop {k0 : Nat} {c : Code} {Q : Exit → Env → List Blk → RowsA → Prop} (I : Nat → Env → List Blk → RowsA → Prop) (j : Nat) (h₀ : I j env σ R)
    (round : ∀ j env σ R, I j env σ R → AWP P G n k0 m0 c (thenA (Back k0 m0 I j) Q) env σ R) : AWP P G n k0 m0 (.loop c) Q env σ R := by
  intro X0 X a h0 hk hm hE hI he
  refine wp_loop_m (fun j a' w' => ∃ X' env' σ' R', I j env' σ' R' ∧ X'.w = w' ∧ Evo X0 X' ∧ Inv G X' σ' R' ∧ EnvOk X' n env' a') j ⟨X, env, σ, R, h₀, rfl, hE, hI, he⟩ ?_
  rintro j a' w' ⟨X', env', σ', R', h1, rfl, hE, hI', he'⟩
  refine wp_mono (round j env' σ' R' h1 X0 X' a' h0 hk hm hE hI' he') ?_
  rintro e a'' w'' ⟨X'', env'', σ'', R'', hq, rfl, k2, k3, k4⟩
  cases e with
  | normal =>
    obtain ⟨j', k, ks, env3, σ3, hj, hl, hi⟩ := hq
    have hrl : X''.rows.length = R''.length := by rw [← k3.rowsR]; simp
    exact ⟨j', hj, X''.trim k ks, env3, σ3, selR R'' ks, hi, rfl, k2.trim hrl (by rw [hk]; exact hl.hk0) hm hl.hm, k3.trim hl.hk hl.hm hl.blk hl.cl, k4.trim (fun i hi => by rw [hrl]; exact (keeps_spec hl.hm).2.1 i hi) hl.env⟩
  | exit id => exact ⟨X'', env'', σ'', R'', hq, rfl, k2, k3, k4⟩
  | goto l => exact ⟨X'', env'', σ'', R'', hq, rfl, k2, k3, k4⟩
  | ret => exact ⟨X'', env'', σ'', R'', hq, rfl, k2, k3, k4⟩
  | panic c => exact ⟨X'', env'', σ'', R'', hq, rfl, k2, k3, k4⟩
  | outgrown => exact ⟨X'', env'', σ'', R'', hq, rfl, k2, k3, k4⟩

/-- Ways that meet again: what they have in common. -/
theorem awp_join {k0 : Nat} {x y : Code} {Q : Exit → Env → List Blk → RowsA → Prop} (J : Env → List Blk → RowsA → Prop) (h : AWP P G n k0 m0 x (thenA (Back k0 m0 (fun _ env σ R => J env σ R) 1) Q) env σ R)
    (hJ : ∀ env σ R, J env σ R → AWP P G n k0 m0 y Q env σ R) : AWP P G n k0 m0 (.seq x y) Q env σ R :=
  awp_seq (awp_mono h fun e env σ R he => by
    cases e with
    | normal =>
      obtain ⟨j', k, ks, env', σ', _, hl, hi⟩ := he
      exact awp_less k ks env' σ' hl (hJ _ _ _ hi)
    | exit id => exact he
    | goto l => exact he
    | ret => exact he
    | panic c => exact he
    | outgrown => exact he)

/-! ### Results -/
def AV.plain : AV → Bool
  | .l _ => true
  | .agg _ => true
  | _ => false
def resOne (P : Program) (env : Env) (σ : List Blk) : ResultVar → Option AV
  | .tmp t => envGet env t
  | .cell t ty => match envGet env t with
    | some (.l (.ptr i off)) => loadV P (fun _ => true) ty σ (.l (.ptr i off))
    | _ => none
def resList (P : Program) (env : Env) (σ : List Blk) : List ResultVar → Option (List AV)
  | [] => some []
  | r :: rs => match resOne P env σ r, resList P env σ rs with
    | some v, some vs => if v.plain = true then some (v :: vs) else none
    | _, _ => none
def resA (P : Program) (rs : Array ResultVar) (env : Env) (σ : List Blk) : Option AV :=
  match resList P env σ rs.toList with
  | some [v] => some v
  | some vs => some (.tup vs)
  | none => none

theorem plain_rep1 {v : AV} {r : Value} (h : v.plain = true) (hr : RepV X v r) : Rep1 X v r := by
  cases v <;> simp [AV.plain] at h <;> exact hr

theorem resList_sound (hI : Inv G X σ R) (he : EnvOk X n env a) : ∀ (rs : List ResultVar) (vs : List AV), resList P env σ rs = some vs →
    ∃ us : List Value, (rs.mapM fun | .tmp t => pure (a.tmps.getD t Go.undef) | .cell x t => do loadVar t (← asAddr (a.tmps.getD x Go.undef)) : Sem (List Value)).run P X.w = .ok us X.w ∧ us.length = vs.length ∧
      ∀ (j : Nat) (v : AV), vs[j]? = some v → ∃ u, us[j]? = some u ∧ Rep1 X v u
  | [], vs, h => by
    simp only [resList, Option.some.injEq] at h
    subst h
    exact ⟨[], by simp, rfl, by simp⟩
  | r :: rs, vs, h => by
    simp only [resList] at h
    split at h
    · rename_i v vs' h1 h2
      split at h
      · rename_i hp
        obtain rfl := Option.some.inj h
        obtain ⟨us, k1, k2, k3⟩ := resList_sound hI he rs vs' h2
        have hone : ∃ u, (match r with | .tmp t => pure (a.tmps.getD t Go.undef) | .cell x t => do loadVar t (← asAddr (a.tmps.getD x Go.undef)) : Sem Value).run P X.w = .ok u X.w ∧ Rep1 X v u := by
          cases r with
          | tmp t =>
            simp only [resOne] at h1
            obtain ⟨q, q1, q2⟩ := he.2.2 t v h1
            exact ⟨q, by simp [q1], plain_rep1 hp q2⟩
          | cell x ty =>
            simp only [resOne] at h1
            split at h1
            · rename_i i off hx
              obtain ⟨q, q1, q2⟩ := he.2.2 x _ hx
              obtain ⟨u, u1, u2⟩ := load_sound (P := P) hI q2 h1
              refine ⟨u, ?_, plain_rep1 hp u1⟩
              obtain ⟨b, _, hb⟩ := q2
              have := u2 X.w Agree.here
              simp only [Instr.loadAt, Instr.sureAddr, hb, Sem.run_bind, Sem.run_pure, Result.andThen_ok] at this
              simp [q1, hb, asAddr, this]
            · cases h1
        obtain ⟨u, u1, u2⟩ := hone
        refine ⟨u :: us, ?_, by simp [k2], fun j v' hj => ?_⟩
        · rw [List.mapM_cons]
          simp only [Sem.run_bind]
          rw [u1]
          simp only [Result.andThen_ok]
          rw [k1]
          simp
        · cases j with
          | zero => simp at hj; subst hj; exact ⟨u, rfl, u2⟩
          | succ j => simpa using k3 j v' (by simpa using hj)
      · cases h
    · cases h

theorem resA_sound (hI : Inv G X σ R) (he : EnvOk X n env a) {fn : Func} {v : AV} (h : resA P fn.results env σ = some v) : ∃ r, (results fn a.tmps).run P X.w = .ok r X.w ∧ RepV X v r := by
  unfold resA at h
  cases hl : resList P env σ fn.results.toList with
  | none => simp [hl] at h
  | some vs =>
    obtain ⟨us, k1, k2, k3⟩ := resList_sound (P := P) hI he _ _ hl
    have hm : (fn.results.mapM fun | .tmp t => pure (a.tmps.getD t Go.undef) | .cell x t => do loadVar t (← asAddr (a.tmps.getD x Go.undef)) : Sem (Array Value)).run P X.w = .ok us.toArray X.w := by
      rw [Array.mapM_eq_mapM_toList]
      simp only [Sem.run_map]
      rw [k1]; rfl
    rw [hl] at h
    refine ⟨if h : us.toArray.size = 1 then us.toArray[0] else .tuple us.toArray, ?_, ?_⟩
    · unfold results
      simp only [Sem.run_bind]
      refine Eq.trans (congrArg (fun q : Result (Array Value) => q.andThen fun vs w' => Sem.run P (pure (if h : vs.size = 1 then vs[0] else Value.tuple vs)) w') (show _ = Result.ok us.toArray X.w from hm)) ?_
      rfl
    · match vs, h with
      | [v0], h =>
        obtain rfl := Option.some.inj h
        have h1 : us.toArray.size = 1 := by simpa using k2
        rw [dif_pos h1]
        obtain ⟨u, u1, u2⟩ := k3 0 v0 rfl
        have : us.toArray[0] = u := by
          have hu : us[0]? = some u := u1
          simp only [List.getElem_toArray]
          exact (List.getElem?_eq_some_iff.1 hu).2
        rw [this]
        cases v0 <;> first | exact u2 | exact u2.elim
      | [], h =>
        obtain rfl := Option.some.inj h
        have h1 : ¬ us.toArray.size = 1 := by simp at k2; simp [k2]
        rw [dif_neg h1]
        exact ⟨us.toArray, rfl, by simpa using k2, fun j x hj => by simp at hj⟩
      | v0 :: v1 :: vs, h =>
        obtain rfl := Option.some.inj h
        have h1 : ¬ us.toArray.size = 1 := by simp at k2 ⊢; omega
        rw [dif_neg h1]
        exact ⟨us.toArray, rfl, by simpa using k2, fun j x hj => by simpa using k3 j x hj⟩

def envOf (k : Nat) : List AV → Env
  | [] => []
  | v :: vs => (k, v) :: envOf (k + 1) vs
theorem envOf_get : ∀ (vs : List AV) (k t : Nat) (v : AV), envGet (envOf k vs) t = some v → k ≤ t ∧ vs[t - k]? = some v
  | [], k, t, v, h => by simp [envOf, envGet] at h
  | u :: vs, k, t, v, h => by
    simp only [envOf, envGet] at h
    split at h
    · rename_i hkt
      subst hkt
      exact ⟨Nat.le_refl _, by simpa using h⟩
    · obtain ⟨h1, h2⟩ := envOf_get vs (k + 1) t v h
      refine ⟨by omega, ?_⟩
      rw [show t - k = (t - (k + 1)) + 1 by omega, List.getElem?_cons_succ]; exact h2

/-- How a function's body may end. -/
def RetOk (P : Program) (rs : Array ResultVar) (Q : AV → List Blk → RowsA → Prop) (k0 m0 : Nat) (e : Exit) (env : Env) (σ : List Blk) (R : RowsA) : Prop :=
  (e = .normal ∨ e = .ret) ∧ ∃ res res' k ks σ', resA P rs env σ = some res ∧ res.wk (res'.rnR ks) ∧ res'.cl k ks.length = true ∧ k0 ≤ k ∧ k ≤ σ.length ∧ Keeps m0 R.length ks = true ∧ wkS ks (σ.take k) σ' ∧ clS k ks.length σ' = true ∧ Q res' σ' (selR R ks)

theorem acalls_intro {f : FuncId} {fn : Func} {c : Code} {args : List AV} {k0 : Nat} {rs : Array ResultVar} {Q : AV → List Blk → RowsA → Prop} (hf : P.funcs[f]? = some fn) (hb : fn.body = some c) (hc : callable P f = true) (hn : fn.ntmps = n) (hrs : fn.results = rs) (ha : args.length ≤ n) (hk0 : σ.length = k0) (hm0 : R.length = m0)
    (h : AWP P G n k0 m0 c (RetOk P rs Q k0 m0) (envOf 0 args) σ R) : ACK P G (fun _ => false) f args σ R Q := by
  subst hn hrs hk0 hm0
  refine ⟨hc, fun X argsV hI hl hargs => ?_⟩
  have hrl : X.rows.length = R.length := by rw [← hI.rowsR]; simp
  refine calls_of_wp hf hb (wp_mono (h X X _ ⟨σ, R, hI⟩ hI.muLen hrl (Evo.refl hI) hI ⟨rfl, ?_, ?_⟩) ?_)
  · simp; omega
  · intro t v ht
    obtain ⟨_, h2⟩ := envOf_get args 0 t v ht
    obtain ⟨u, u1, u2⟩ := hargs t v (by simpa using h2)
    have hlt := (Array.getElem?_eq_some_iff.1 u1).1
    exact ⟨u, by simp only; rw [Array.getElem?_append_left hlt]; exact u1, u2⟩
  · rintro e a' w' ⟨X', env', σ', R', hq, rfl, hE, hI', he'⟩
    obtain ⟨hex, res, res', k, ks, σ'', h1, h2, h3, h4, h5, h6, h7, h8, h9⟩ := hq
    obtain ⟨r, r1, r2⟩ := resA_sound (P := P) hI' he' h1
    have hrl' : X'.rows.length = R'.length := by rw [← hI'.rowsR]; simp
    have fin : a'.defers = [] ∧ ∃ v, (results fn a'.tmps).run P X'.w = .ok v X'.w ∧ ∃ res r σ' R' X'', Ending.returned v = .returned r ∧ Q res σ' R' ∧ X''.w = X'.w ∧ Evo X X'' ∧ HeldEq (fun _ => false) X X'' ∧ Inv G X'' σ' R' ∧ RepV X'' res r :=
      ⟨he'.1, r, r1, res', r, σ'', _, X'.trim k ks, rfl, h9, rfl, hE.trim hrl' (by rw [hI.muLen]; exact h4) hrl h6, fun _ _ _ hh => (by cases hh), hI'.trim h5 h6 h7 h8, trim_repV (fun i hi => by rw [hrl']; exact (keeps_spec h6).2.1 i hi) h3 (wkA_sound h2 r2)⟩
    rcases hex with rfl | rfl
    · exact fin
    · exact fin
end
end Go.Abs
