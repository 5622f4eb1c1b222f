/-
  A CALL WITHIN A LARGER STORE: the callee's variables and rows are some of the caller's ('acall_frame').
-/
import Derived.Test.YtajeoodipplmlaaDoorAbs13
set_option linter.all false
namespace Go.Abs
open Go Go.RowKit

def posOf (is : List Nat) (n i : Nat) : Nat :=
  match is[i]? with
  | some p => p
  | none => n + (i - is.length)
def LV.rn (is ks : List Nat) (n m : Nat) : LV → LV
  | .ptr i o => .ptr (posOf is n i) o
  | .fn f caps => .fn f (caps.map fun c => (posOf is n c.1, c.2))
  | .mfn f i o => .mfn f (posOf is n i) o
  | .vsl i o s l => .vsl (posOf is n i) o s l
  | .slice (.row i) sz e => .slice (.row (posOf ks m i)) sz e
  | x => x
def AV.rn1 (is ks : List Nat) (n m : Nat) : AV → AV
  | .l x => .l (x.rn is ks n m)
  | .agg xs => .agg (xs.map (·.rn is ks n m))
  | x => x
def AV.rn (is ks : List Nat) (n m : Nat) : AV → AV
  | .tup xs => .tup (xs.map (·.rn1 is ks n m))
  | .ifb c v => .ifb c (v.rn1 is ks n m)
  | x => x.rn1 is ks n m
def Blk.rn (is ks : List Nat) (n m : Nat) (B : Blk) : Blk := ⟨B.T, B.cells.map (·.rn is ks n m)⟩

def setMany {α : Type} : List α → List Nat → List α → List α
  | l, i :: is, v :: vs => setMany (l.set i v) is vs
  | l, [], _ => l
  | l, _ :: _, [] => l

theorem setMany_length {α : Type} : ∀ (is : List Nat) (l vs : List α), (setMany l is vs).length = l.length
  | [], l, vs => by simp [setMany]
  | i :: is, l, [] => by simp [setMany]
  | i :: is, l, v :: vs => by simp [setMany, setMany_length is]
theorem setMany_out {α : Type} : ∀ (is : List Nat) (l vs : List α) (i : Nat), i ∉ is → (setMany l is vs)[i]? = l[i]?
  | [], l, vs, i, _ => by simp [setMany]
  | j :: is, l, [], i, _ => by simp [setMany]
  | j :: is, l, v :: vs, i, h => by
    simp only [List.mem_cons, not_or] at h
    rw [setMany, setMany_out is _ vs i h.2, List.getElem?_set_ne (fun hj => h.1 hj.symm)]
theorem setMany_in {α : Type} : ∀ (is : List Nat) (l vs : List α) (p i : Nat) (v : α), is.Nodup → is[p]? = some i → vs[p]? = some v → i < l.length → (setMany l is vs)[i]? = some v
  | [], l, vs, p, i, v, _, h, _, _ => by simp at h
  | j :: is, l, [], p, i, v, _, _, h, _ => by simp at h
  | j :: is, l, u :: vs, p, i, v, hn, hp, hv, hi => by
    rw [List.nodup_cons] at hn
    cases p with
    | zero =>
      simp at hp hv
      subst hp hv
      rw [setMany, setMany_out is _ vs j hn.1, List.getElem?_set_self hi]
    | succ p =>
      rw [setMany]
      exact setMany_in is _ vs p i v hn.2 (by simpa using hp) (by simpa using hv) (by simpa using hi)

def subS (σ : List Blk) (rn : LV → LV) : List Nat → List Blk → Prop
  | [], [] => True
  | i :: is, B :: σc => (match σ[i]? with
    | some B0 => B0.T = B.T ∧ wkL B0.cells (B.cells.map rn)
    | none => False) ∧ subS σ rn is σc
  | _, _ => False
def subR (R : RowsA) : List Nat → RowsA → Prop
  | [], [] => True
  | i :: is, r :: Rc => R[i]? = some r ∧ subR R is Rc
  | _, _ => False

theorem subS_spec {σ : List Blk} {rn : LV → LV} : ∀ {is : List Nat} {σc : List Blk}, subS σ rn is σc → is.length = σc.length ∧ ∀ (p : Nat) (B : Blk), σc[p]? = some B → ∃ i B0, is[p]? = some i ∧ σ[i]? = some B0 ∧ B0.T = B.T ∧ wkL B0.cells (B.cells.map rn)
  | [], [], _ => ⟨rfl, by simp⟩
  | i :: is, B :: σc, h => by
    obtain ⟨h1, h2⟩ := h
    obtain ⟨k1, k2⟩ := subS_spec h2
    refine ⟨by simp [k1], fun p B' hp => ?_⟩
    cases p with
    | zero =>
      simp at hp; subst hp
      split at h1
      · rename_i B0 hB0; exact ⟨i, B0, rfl, hB0, h1.1, h1.2⟩
      · exact h1.elim
    | succ p => simpa using k2 p B' (by simpa using hp)
  | [], _ :: _, h => h.elim
  | _ :: _, [], h => h.elim
theorem subR_spec {R : RowsA} : ∀ {is : List Nat} {Rc : RowsA}, subR R is Rc → is.length = Rc.length ∧ ∀ (p : Nat) (r : TypeId × Nat), Rc[p]? = some r → ∃ i, is[p]? = some i ∧ R[i]? = some r
  | [], [], _ => ⟨rfl, by simp⟩
  | i :: is, B :: σc, h => by
    obtain ⟨h1, h2⟩ := h
    obtain ⟨k1, k2⟩ := subR_spec h2
    refine ⟨by simp [k1], fun p B' hp => ?_⟩
    cases p with
    | zero => simp at hp; subst hp; exact ⟨i, rfl, h1⟩
    | succ p => simpa using k2 p B' (by simpa using hp)
  | [], _ :: _, h => h.elim
  | _ :: _, [], h => h.elim

section
variable {P : Program} {G : Nat → Option (List LV)} {H Hl He : Nat → Bool} {σ σc : List Blk} {R Rc : RowsA}

theorem acall_frame {f : FuncId} {args args' : List AV} {Qc K : AV → List Blk → RowsA → Prop} {H0 : Nat → Bool} (hc : ACK P G H0 f args' σc Rc Qc) (is ks : List Nat) (hnis : is.Nodup) (hnks : ks.Nodup)
    (hargs : wkT args (args'.map (·.rn1 is ks σ.length R.length))) (hσ : subS σ (·.rn is ks σ.length R.length) is σc) (hR : subR R ks Rc) (hH : ∀ i ∈ is, He i = false)
    (hK : ∀ res σ' R', Qc res σ' R' → K (res.rn is ks σ.length R.length) (setMany σ is (σ'.map (·.rn is ks σ.length R.length)) ++ (σ'.drop is.length).map (·.rn is ks σ.length R.length)) (setMany R ks R' ++ R'.drop ks.length)) :
    ACK P G He f args σ R K := by
  refine ⟨hc.1, fun X argsV hI hl hrep => ?_⟩
  obtain ⟨lS, gS⟩ := subS_spec hσ
  obtain ⟨lR, gR⟩ := subR_spec hR
  have hrl : X.rows.length = R.length := by rw [← hI.rowsR]; simp
  have isLt : ∀ (p i : Nat), is[p]? = some i → ∃ b, X.mu[i]? = some b := fun p i hp => by
    have hp' : p < σc.length := by rw [← lS]; exact (List.getElem?_eq_some_iff.1 hp).1
    obtain ⟨j, B0, k1, k2, _⟩ := gS p σc[p] (List.getElem?_eq_getElem hp')
    rw [hp] at k1
    obtain rfl := Option.some.inj k1
    have : i < X.mu.length := by rw [hI.muLen]; exact (List.getElem?_eq_some_iff.1 k2).1
    exact ⟨_, List.getElem?_eq_getElem this⟩
  have ksLt : ∀ (p i : Nat), ks[p]? = some i → ∃ q, X.rows[i]? = some q := fun p i hp => by
    have hp' : p < Rc.length := by rw [← lR]; exact (List.getElem?_eq_some_iff.1 hp).1
    obtain ⟨j, k1, k2⟩ := gR p Rc[p] (List.getElem?_eq_getElem hp')
    rw [hp] at k1
    obtain rfl := Option.some.inj k1
    have : i < X.rows.length := by rw [hrl]; exact (List.getElem?_eq_some_iff.1 k2).1
    exact ⟨_, List.getElem?_eq_getElem this⟩
  -- the callee's view
  let muc : List Nat := is.map fun i => X.mu.getD i 0
  let rowsc : List Row := ks.map fun i => X.rows.getD i ⟨none, 0, 0, 0⟩
  have mucGet : ∀ (p b : Nat), muc[p]? = some b ↔ ∃ i, is[p]? = some i ∧ X.mu[i]? = some b := fun p b => by
    simp only [muc, List.getElem?_map, Option.map_eq_some_iff]
    constructor
    · rintro ⟨i, h1, h2⟩
      obtain ⟨b', hb'⟩ := isLt p i h1
      simp [List.getD, hb'] at h2
      exact ⟨i, h1, by rw [hb', h2]⟩
    · rintro ⟨i, h1, h2⟩
      exact ⟨i, h1, by simp [List.getD, h2]⟩
  have rowscGet : ∀ (p : Nat) (q : Row), rowsc[p]? = some q ↔ ∃ i, ks[p]? = some i ∧ X.rows[i]? = some q := fun p b => by
    simp only [rowsc, List.getElem?_map, Option.map_eq_some_iff]
    constructor
    · rintro ⟨i, h1, h2⟩
      obtain ⟨b', hb'⟩ := ksLt p i h1
      simp [List.getD, hb'] at h2
      exact ⟨i, h1, by rw [hb', h2]⟩
    · rintro ⟨i, h1, h2⟩
      exact ⟨i, h1, by simp [List.getD, h2]⟩
  have mucSub : ∀ b ∈ muc, b ∈ X.mu := fun b hb => by
    obtain ⟨p, hp⟩ := List.mem_iff_getElem?.1 hb
    obtain ⟨i, _, h2⟩ := (mucGet p b).1 hp
    exact List.mem_iff_getElem?.2 ⟨i, h2⟩
  let Zc : Nat → Nat → Prop := fun b o => X.Z b o ∨ (b ∈ X.mu ∧ b ∉ muc) ∨ ∃ (i : Nat) (r : Row), X.rows[i]? = some r ∧ i ∉ ks ∧ r.blk = some b ∧ r.n * r.sz ≤ o
  let Xc : Ctx := { w := X.w, mu := muc, rows := rowsc, Z := Zc }
  have rdIff : ∀ b o v, Xc.Rd b o v ↔ X.Rd b o v := fun b o v => by
    constructor
    · rintro ⟨h1, h2, h3, h4⟩
      refine ⟨h1, fun hb => h4 (.inr (.inl ⟨hb, h2⟩)), ?_, fun hz => h4 (.inl hz)⟩
      rintro ⟨i, r, hr, hb, hle⟩
      by_cases hi : i ∈ ks
      · obtain ⟨p, hp⟩ := List.mem_iff_getElem?.1 hi
        exact h3 ⟨p, r, (rowscGet p r).2 ⟨i, hp, hr⟩, hb, hle⟩
      · exact h4 (.inr (.inr ⟨i, r, hr, hi, hb, hle⟩))
    · rintro ⟨h1, h2, h3, h4⟩
      refine ⟨h1, fun hb => h2 (mucSub b hb), ?_, ?_⟩
      · rintro ⟨p, r, hr, hb, hle⟩
        obtain ⟨i, _, hi⟩ := (rowscGet p r).1 hr
        exact h3 ⟨i, r, hi, hb, hle⟩
      · rintro (hz | ⟨hb, _⟩ | ⟨i, r, hr, _, hb, hle⟩)
        · exact h4 hz
        · exact h2 hb
        · exact h3 ⟨i, r, hr, hb, hle⟩
  have toRep : ∀ {x : LV} {r : Value}, Rep X.Rd x r → Rep Xc.Rd x r := fun h => h.mono fun b o v hv => (rdIff b o v).2 hv
  have toC : ∀ (y : LV) (r : Value), RepL X (y.rn is ks σ.length R.length) r → RepL Xc y r := fun y r hr => by
    cases y with
    | ptr i off =>
      obtain ⟨b, hb, rfl⟩ := hr
      refine ⟨b, ?_, rfl⟩
      unfold posOf at hb
      split at hb
      · rename_i p hp; exact (mucGet i b).2 ⟨p, hp, hb⟩
      · rw [List.getElem?_eq_none (by rw [hI.muLen]; omega)] at hb; cases hb
    | eptr cells off =>
      obtain ⟨b, o, rfl, h⟩ := hr
      refine ⟨b, o, rfl, fun j x hx => ?_⟩
      obtain ⟨u, h1, h2⟩ := h j x hx
      exact ⟨u, (rdIff _ _ _).2 h1, toRep h2⟩
    | slice own sz e =>
      cases own with
      | shared => exact toRep hr
      | cap0 => exact hr
      | row i =>
        obtain ⟨h1, q, hq, h2, h3⟩ := hr
        refine ⟨toRep h1, q, ?_, h2, h3⟩
        unfold posOf at hq
        split at hq
        · rename_i p hp; exact (rowscGet i q).2 ⟨p, hp, hq⟩
        · rw [List.getElem?_eq_none (by rw [hrl]; omega)] at hq; cases hq
    | fn f caps =>
      obtain ⟨rs, rfl, hl, h⟩ := hr
      refine ⟨rs, rfl, by simpa using hl, fun j c hj => ?_⟩
      obtain ⟨b, hb, hv⟩ := h j (posOf is σ.length c.1, c.2) (by simp [hj])
      refine ⟨b, ?_, hv⟩
      simp only at hb
      unfold posOf at hb
      split at hb
      · rename_i p hp; exact (mucGet c.1 b).2 ⟨p, hp, hb⟩
      · rw [List.getElem?_eq_none (by rw [hI.muLen]; omega)] at hb; cases hb
    | mfn f i off =>
      obtain ⟨b, hb, rfl⟩ := hr
      refine ⟨b, ?_, rfl⟩
      unfold posOf at hb
      split at hb
      · rename_i p hp; exact (mucGet i b).2 ⟨p, hp, hb⟩
      · rw [List.getElem?_eq_none (by rw [hI.muLen]; omega)] at hb; cases hb
    | vsl i off sz len =>
      obtain ⟨b, cap, hb, h1⟩ := hr
      refine ⟨b, cap, ?_, h1⟩
      unfold posOf at hb
      split at hb
      · rename_i p hp; exact (mucGet i b).2 ⟨p, hp, hb⟩
      · rw [List.getElem?_eq_none (by rw [hI.muLen]; omega)] at hb; cases hb
    | int k n => exact toRep hr
    | bool b => exact toRep hr
    | str l => exact toRep hr
    | nilp => exact toRep hr
  have rowIn : ∀ (p i : Nat) (q : Row), ks[p]? = some i → X.rows[i]? = some q → rowsc[p]? = some q := fun p i q h1 h2 => (rowscGet p q).2 ⟨i, h1, h2⟩
  have hIc : Inv G Xc σc Rc :=
    { muLen := by simp [Xc, muc, lS]
      nodup := by
        rw [List.nodup_iff_pairwise_ne, List.pairwise_iff_getElem]
        intro p q hp hq hlt heq
        obtain ⟨i, h1, h2⟩ := (mucGet p (muc[p])).1 (List.getElem?_eq_getElem hp)
        obtain ⟨j, h3, h4⟩ := (mucGet q (muc[q])).1 (List.getElem?_eq_getElem hq)
        rw [show muc[p] = muc[q] from heq] at h2
        have hij := nodup_get hI.nodup h2 h4
        subst hij
        have := nodup_get hnis h1 h3
        omega
      blk := fun p B b hB hb => by
        obtain ⟨i, hi, hm⟩ := (mucGet p b).1 hb
        obtain ⟨i', B0, k1, k2, k3, k4⟩ := gS p B hB
        rw [hi] at k1
        obtain rfl := Option.some.inj k1
        obtain ⟨cs, h1, h2, h3⟩ := hI.blk i B0 b k2 hm
        obtain ⟨l1, l2⟩ := wkL_spec k4
        refine ⟨cs, by rw [← k3]; exact h1, by rw [h2, l1]; simp, fun j x hx => ?_⟩
        obtain ⟨y, hy, hw⟩ := l2 j (x.rn is ks σ.length R.length) (by simp [hx])
        obtain ⟨r, r1, r2⟩ := h3 j y hy
        exact ⟨r, r1, toC x r (wk_sound hw r2)⟩
      rowsR := by
        apply List.ext_getElem?
        intro p
        simp only [List.getElem?_map]
        cases hr : Rc[p]? with
        | none =>
          have : rowsc[p]? = none := List.getElem?_eq_none (by simp only [rowsc, List.length_map]; rw [lR]; exact List.getElem?_eq_none_iff.1 hr)
          show Option.map _ rowsc[p]? = none
          rw [this]; rfl
        | some r =>
          obtain ⟨i, h1, h2⟩ := gR p r hr
          obtain ⟨q, hq⟩ := ksLt p i h1
          show Option.map _ rowsc[p]? = some r
          rw [rowIn p i q h1 hq]
          rw [← hI.rowsR] at h2
          simpa [hq] using h2
      row := fun p r b hr hb => by
        obtain ⟨i, h1, h2⟩ := (rowscGet p r).1 hr
        obtain ⟨k1, k2, k3, k4⟩ := hI.row i r b h2 hb
        refine ⟨fun hm => k1 (mucSub b hm), k2, fun o => ?_, k4⟩
        rintro (hz | ⟨hm, _⟩ | ⟨j, q, hq, hj, hqb, _⟩)
        · exact k3 o hz
        · exact k1 hm
        · have := hI.inj i j r q b h2 hq hb hqb
          subst this
          exact hj (List.mem_iff_getElem?.2 ⟨p, h1⟩)
      row0 := fun p r hr hb => by
        obtain ⟨i, _, h2⟩ := (rowscGet p r).1 hr
        exact hI.row0 i r h2 hb
      inj := fun p p' r q b hr hq hrb hqb => by
        obtain ⟨i, h1, h2⟩ := (rowscGet p r).1 hr
        obtain ⟨j, h3, h4⟩ := (rowscGet p' q).1 hq
        have := hI.inj i j r q b h2 h4 hrb hqb
        subst this
        exact nodup_get hnks h1 h3
      zlt := fun b o => by
        rintro (hz | ⟨hm, _⟩ | ⟨j, q, hq, hj, hqb, _⟩)
        · exact hI.zlt b o hz
        · exact hI.muLt b hm
        · exact hI.rowLt j q b hq hqb
      glob := fun g cells hg j x hx => let ⟨u, h1, h2⟩ := hI.glob g cells hg j x hx; ⟨u, (rdIff _ _ _).2 h1, toRep h2⟩ }
  obtain ⟨wl, wg⟩ := wkT_spec hargs
  refine (hc.2 Xc argsV hIc (by rw [hl, wl]; simp) (fun j y hj => ?_)).mono ?_
  · obtain ⟨x, hx, hw⟩ := wg j (y.rn1 is ks σ.length R.length) (by simp [hj])
    obtain ⟨u, u1, u2⟩ := hrep j x hx
    refine ⟨u, u1, ?_⟩
    cases x with
    | l x =>
      cases y with
      | l y => exact toC y u (wk_sound hw u2)
      | agg y => exact hw.elim
      | tup y => exact hw.elim
      | ifb c y => exact hw.elim
      | undef => exact hw.elim
    | agg xs =>
      cases y with
      | agg ys =>
        obtain ⟨rs, rfl, hl', h⟩ := u2
        obtain ⟨l1, l2⟩ := wkL_spec (hw : wkL xs (ys.map (·.rn is ks σ.length R.length)))
        refine ⟨rs, rfl, by rw [hl', l1]; simp, fun j z hz => ?_⟩
        obtain ⟨x, hx', hxw⟩ := l2 j (z.rn is ks σ.length R.length) (by simp [hz])
        obtain ⟨q, q1, q2⟩ := h j x hx'
        exact ⟨q, q1, toC z q (wk_sound hxw q2)⟩
      | l y => exact hw.elim
      | tup y => exact hw.elim
      | ifb c y => exact hw.elim
      | undef => exact hw.elim
    | undef =>
      cases y with
      | undef => exact u2
      | l y => exact hw.elim
      | agg y => exact hw.elim
      | tup y => exact hw.elim
      | ifb c y => exact hw.elim
    | tup xs => cases y <;> exact hw.elim
    | ifb c x => cases y <;> exact hw.elim
  · rintro e w' ⟨res, r, σ', R', Xc', rfl, hQ, rfl, hE, _, hI', hr⟩
    obtain ⟨news, hmu', hnews⟩ := hE.mu
    have hmuc : Xc.mu = muc := rfl
    have hmul : muc.length = is.length := by simp [muc]
    have hrowl : rowsc.length = ks.length := by simp [rowsc]
    have hrl' : ks.length ≤ Xc'.rows.length := by
      rcases Nat.lt_or_ge Xc'.rows.length ks.length with h | h
      · exfalso
        have hlt : Xc'.rows.length < rowsc.length := by rw [hrowl]; exact h
        obtain ⟨r', h1, _⟩ := hE.rows _ _ (List.getElem?_eq_getElem hlt)
        rw [List.getElem?_eq_none (Nat.le_refl _)] at h1; cases h1
      · exact h
    let X' : Ctx := { w := Xc'.w, mu := X.mu ++ news, rows := setMany X.rows ks Xc'.rows ++ Xc'.rows.drop ks.length, Z := X.Z }
    have hszw : X.w.heap.size ≤ Xc'.w.heap.size := hE.size
    have rlen : (setMany X.rows ks Xc'.rows).length = X.rows.length := setMany_length _ _ _
    -- the rows of X'
    have rowGet : ∀ (i : Nat) (r : Row), X'.rows[i]? = some r → (∃ p, ks[p]? = some i ∧ Xc'.rows[p]? = some r) ∨ (i ∉ ks ∧ X.rows[i]? = some r) ∨ (X.rows.length ≤ i ∧ Xc'.rows[ks.length + (i - X.rows.length)]? = some r) := fun i r hr => by
      rcases Nat.lt_or_ge i X.rows.length with hlt | hge
      · simp only [X'] at hr
        rw [List.getElem?_append_left (by rw [rlen]; exact hlt)] at hr
        by_cases hi : i ∈ ks
        · obtain ⟨p, hp⟩ := List.mem_iff_getElem?.1 hi
          have hpl : p < ks.length := (List.getElem?_eq_some_iff.1 hp).1
          have := setMany_in ks X.rows Xc'.rows p i Xc'.rows[p] hnks hp (List.getElem?_eq_getElem (by omega)) hlt
          rw [this] at hr
          exact .inl ⟨p, hp, by rw [List.getElem?_eq_getElem (by omega)]; exact hr⟩
        · rw [setMany_out ks _ _ i hi] at hr
          exact .inr (.inl ⟨hi, hr⟩)
      · simp only [X'] at hr
        rw [List.getElem?_append_right (by rw [rlen]; exact hge), rlen, List.getElem?_drop] at hr
        exact .inr (.inr ⟨hge, hr⟩)
    have rowPut : ∀ (p : Nat) (r : Row), Xc'.rows[p]? = some r → X'.rows[posOf ks R.length p]? = some r := fun p r hr => by
      unfold posOf
      split
      · rename_i i hp
        obtain ⟨q, hq⟩ := ksLt p i hp
        have hlt := (List.getElem?_eq_some_iff.1 hq).1
        simp only [X']
        rw [List.getElem?_append_left (by rw [rlen]; exact hlt)]
        exact setMany_in ks X.rows Xc'.rows p i r hnks hp hr hlt
      · rename_i hp
        have hpl : ks.length ≤ p := List.getElem?_eq_none_iff.1 hp
        simp only [X']
        rw [List.getElem?_append_right (by rw [rlen, hrl]; omega), rlen, hrl, List.getElem?_drop]
        rw [show ks.length + (R.length + (p - ks.length) - R.length) = p by omega]; exact hr
    have muPut : ∀ (p b : Nat), Xc'.mu[p]? = some b → X'.mu[posOf is σ.length p]? = some b := fun p b hb => by
      rw [hmu', hmuc] at hb
      unfold posOf
      split
      · rename_i i hp
        have hpl : p < muc.length := by rw [hmul]; exact (List.getElem?_eq_some_iff.1 hp).1
        rw [List.getElem?_append_left hpl] at hb
        obtain ⟨i', h1, h2⟩ := (mucGet p b).1 hb
        rw [hp] at h1
        obtain rfl := Option.some.inj h1
        simp only [X']
        rw [List.getElem?_append_left (List.getElem?_eq_some_iff.1 h2).1]; exact h2
      · rename_i hp
        have hpl : is.length ≤ p := List.getElem?_eq_none_iff.1 hp
        rw [List.getElem?_append_right (by rw [hmul]; exact hpl), hmul] at hb
        simp only [X']
        rw [List.getElem?_append_right (by rw [hI.muLen]; omega), hI.muLen]
        rw [show σ.length + (p - is.length) - σ.length = p - is.length by omega]; exact hb
    -- untouched rows stay
    have outRow : ∀ (i : Nat) (r : Row) (b : Nat), X.rows[i]? = some r → i ∉ ks → r.blk = some b → b ∉ muc ∧ ∀ (p : Nat) (q : Row), rowsc[p]? = some q → q.blk ≠ some b := fun i r b hr hi hb => by
      refine ⟨fun hm => (hI.row i r b hr hb).1 (mucSub b hm), fun p q hq hqb => ?_⟩
      obtain ⟨j, h1, h2⟩ := (rowscGet p q).1 hq
      have := hI.inj i j r q b hr h2 hb hqb
      subst this
      exact hi (List.mem_iff_getElem?.2 ⟨p, h1⟩)
    have hEX : Evo X X' :=
      { os := hE.os, tape := hE.tape, output := hE.output, size := hE.size, mu := ⟨news, rfl, hnews⟩,
        rows := fun i r hr => by
          have hlt := (List.getElem?_eq_some_iff.1 hr).1
          by_cases hi : i ∈ ks
          · obtain ⟨p, hp⟩ := List.mem_iff_getElem?.1 hi
            obtain ⟨r', h1, h2⟩ := hE.rows p r (rowIn p i r hp hr)
            refine ⟨r', ?_, h2⟩
            have := rowPut p r' h1
            unfold posOf at this
            rw [hp] at this
            exact this
          · refine ⟨r, ?_, rfl, Nat.le_refl _, fun _ => rfl, .inl ⟨rfl, fun _ => rfl⟩⟩
            simp only [X']
            rw [List.getElem?_append_left (by rw [rlen]; exact hlt), setMany_out ks _ _ i hi]; exact hr
        news := fun i r' b hi hr hb => by
          rcases rowGet i r' hr with ⟨p, hp, _⟩ | ⟨_, h⟩ | ⟨_, h⟩
          · obtain ⟨q, hq⟩ := ksLt p i hp
            have := (List.getElem?_eq_some_iff.1 hq).1
            omega
          · rw [List.getElem?_eq_none hi] at h; cases h
          · exact hE.news _ r' b (by simp only [Xc]; rw [hrowl]; omega) h hb
        Z := rfl
        mem := fun b hb hm hrow => hE.mem b hb (fun h => hm (mucSub b h)) (fun p q hq => by
          obtain ⟨i, _, h2⟩ := (rowscGet p q).1 hq
          exact hrow i q h2)
        memrow := fun i r b hr hb => by
          by_cases hi : i ∈ ks
          · obtain ⟨p, hp⟩ := List.mem_iff_getElem?.1 hi
            exact hE.memrow p r b (rowIn p i r hp hr) hb
          · obtain ⟨o1, o2⟩ := outRow i r b hr hi hb
            obtain ⟨_, _, _, cs, cap, hcs, _⟩ := hI.row i r b hr hb
            exact ⟨cs, cs, hcs, (hE.mem b (heap_lt hcs) o1 o2).trans hcs, rfl, fun _ _ => rfl⟩ }
    have rdIff' : ∀ b o v, Xc'.Rd b o v ↔ X'.Rd b o v := fun b o v => by
      have hZ : Xc'.Z = Zc := hE.Z
      constructor
      · rintro ⟨h1, h2, h3, h4⟩
        rw [hmu', hmuc] at h2
        rw [hZ] at h4
        refine ⟨h1, ?_, ?_, fun hz => h4 (.inl hz)⟩
        · simp only [X', List.mem_append]
          rintro (hb | hb)
          · exact h4 (.inr (.inl ⟨hb, fun h => h2 (List.mem_append_left _ h)⟩))
          · exact h2 (List.mem_append_right _ hb)
        · rintro ⟨i, r, hr, hb, hle⟩
          rcases rowGet i r hr with ⟨p, hp, h⟩ | ⟨hi, h⟩ | ⟨_, h⟩
          · exact h3 ⟨p, r, h, hb, hle⟩
          · exact h4 (.inr (.inr ⟨i, r, h, hi, hb, hle⟩))
          · exact h3 ⟨_, r, h, hb, hle⟩
      · rintro ⟨h1, h2, h3, h4⟩
        simp only [X', List.mem_append, not_or] at h2
        refine ⟨h1, ?_, ?_, ?_⟩
        · rw [hmu', hmuc, List.mem_append]
          rintro (hb | hb)
          · exact h2.1 (mucSub b hb)
          · exact h2.2 hb
        · rintro ⟨p, r, hr, hb, hle⟩
          exact h3 ⟨_, r, rowPut p r hr, hb, hle⟩
        · rw [hZ]
          rintro (hz | ⟨hb, _⟩ | ⟨i, r, hr, hi, hb, hle⟩)
          · exact h4 hz
          · exact h2.1 hb
          · refine h3 ⟨i, r, ?_, hb, hle⟩
            have hlt := (List.getElem?_eq_some_iff.1 hr).1
            simp only [X']
            rw [List.getElem?_append_left (by rw [rlen]; exact hlt), setMany_out ks _ _ i hi]; exact hr
    have frRep : ∀ {x : LV} {r : Value}, Rep Xc'.Rd x r → Rep X'.Rd x r := fun h => h.mono fun b o v hv => (rdIff' b o v).1 hv
    have fromC : ∀ (y : LV) (r : Value), RepL Xc' y r → RepL X' (y.rn is ks σ.length R.length) r := fun y r hr => by
      cases y with
      | ptr i off =>
        obtain ⟨b, hb, rfl⟩ := hr
        exact ⟨b, muPut i b hb, rfl⟩
      | eptr cells off =>
        obtain ⟨b, o, rfl, h⟩ := hr
        refine ⟨b, o, rfl, fun j x hx => ?_⟩
        obtain ⟨u, h1, h2⟩ := h j x hx
        exact ⟨u, (rdIff' _ _ _).1 h1, frRep h2⟩
      | slice own sz e =>
        cases own with
        | shared => exact frRep hr
        | cap0 => exact hr
        | row i =>
          obtain ⟨h1, q, hq, h2, h3⟩ := hr
          exact ⟨frRep h1, q, rowPut i q hq, h2, h3⟩
      | fn f caps =>
        obtain ⟨rs, rfl, hl, h⟩ := hr
        refine ⟨rs, rfl, by simpa using hl, fun j c hj => ?_⟩
        simp only [List.getElem?_map, Option.map_eq_some_iff] at hj
        obtain ⟨c', hc', rfl⟩ := hj
        obtain ⟨b, hb, hv⟩ := h j c' hc'
        exact ⟨b, muPut _ b hb, hv⟩
      | mfn f i off =>
        obtain ⟨b, hb, rfl⟩ := hr
        exact ⟨b, muPut i b hb, rfl⟩
      | vsl i off sz len =>
        obtain ⟨b, cap, hb, h1⟩ := hr
        exact ⟨b, cap, muPut i b hb, h1⟩
      | int k n => exact frRep hr
      | bool b => exact frRep hr
      | str l => exact frRep hr
      | nilp => exact frRep hr
    have fromC1 : ∀ (y : AV) (r : Value), Rep1 Xc' y r → Rep1 X' (y.rn1 is ks σ.length R.length) r := fun y r hr => by
      cases y with
      | l x => exact fromC x r hr
      | agg xs =>
        obtain ⟨rs, rfl, hl', h⟩ := hr
        refine ⟨rs, rfl, by rw [hl']; simp, fun j z hz => ?_⟩
        simp only [List.getElem?_map, Option.map_eq_some_iff] at hz
        obtain ⟨x, hx, rfl⟩ := hz
        obtain ⟨q, q1, q2⟩ := h j x hx
        exact ⟨q, q1, fromC x q q2⟩
      | undef => exact hr
      | tup xs => exact hr.elim
      | ifb c x => exact hr.elim
    have hresV : RepV X' (res.rn is ks σ.length R.length) r := by
      cases res with
      | tup xs =>
        obtain ⟨rs, rfl, hl', h⟩ := hr
        refine ⟨rs, rfl, by rw [hl']; simp, fun j z hz => ?_⟩
        simp only [List.getElem?_map, Option.map_eq_some_iff] at hz
        obtain ⟨x, hx, rfl⟩ := hz
        obtain ⟨q, q1, q2⟩ := h j x hx
        exact ⟨q, q1, fromC1 x q q2⟩
      | l x => exact fromC x r hr
      | agg xs => exact fromC1 (.agg xs) r hr
      | undef => exact hr
      | ifb c x => exact ⟨fun hc => fromC1 x r (hr.1 hc), hr.2⟩
    have sl : σ'.length = is.length + news.length := by rw [← hI'.muLen, hmu', hmuc]; simp [hmul]
    have hIX : Inv G X' (setMany σ is (σ'.map (·.rn is ks σ.length R.length)) ++ (σ'.drop is.length).map (·.rn is ks σ.length R.length)) (setMany R ks R' ++ R'.drop ks.length) := by
      have blkC : ∀ (p : Nat) (B : Blk) (b : Nat), σ'[p]? = some B → Xc'.mu[p]? = some b → ∃ cs, X'.w.heap[b]? = some (.cells cs (B.rn is ks σ.length R.length).T (0, 0)) ∧ cs.size = (B.rn is ks σ.length R.length).cells.length ∧
          ∀ (j : Nat) (x : LV), (B.rn is ks σ.length R.length).cells[j]? = some x → ∃ r, cs[j]? = some r ∧ RepL X' x r := fun p B b hB hb => by
        obtain ⟨cs, h1, h2, h3⟩ := hI'.blk p B b hB hb
        refine ⟨cs, h1, by simp [Blk.rn, h2], fun j x hx => ?_⟩
        simp only [Blk.rn, List.getElem?_map, Option.map_eq_some_iff] at hx
        obtain ⟨y, hy, rfl⟩ := hx
        obtain ⟨q, q1, q2⟩ := h3 j y hy
        exact ⟨q, q1, fromC y q q2⟩
      exact
        { muLen := by simp [X', setMany_length, hI.muLen, sl]
          nodup := by
            have h1 := hI'.nodup
            rw [hmu', hmuc, List.nodup_append] at h1
            simp only [X']
            rw [List.nodup_append]
            refine ⟨hI.nodup, h1.2.1, fun x hx y hy => ?_⟩
            have a1 := hI.muLt x hx
            have a2 := hnews y hy
            simp only [Xc] at a2
            omega
          blk := fun i B b hB hb => by
            simp only [X'] at hb
            rcases Nat.lt_or_ge i σ.length with hlt | hge
            · rw [List.getElem?_append_left (by rw [setMany_length]; exact hlt)] at hB
              rw [List.getElem?_append_left (by rw [hI.muLen]; exact hlt)] at hb
              by_cases hi : i ∈ is
              · obtain ⟨p, hp⟩ := List.mem_iff_getElem?.1 hi
                have hpl : p < is.length := (List.getElem?_eq_some_iff.1 hp).1
                have hg := setMany_in is σ (σ'.map (·.rn is ks σ.length R.length)) p i (σ'[p].rn is ks σ.length R.length) hnis hp (by simp [List.getElem?_eq_getElem (show p < σ'.length by omega)]) hlt
                rw [hg] at hB
                obtain rfl := Option.some.inj hB
                refine blkC p σ'[p] b (List.getElem?_eq_getElem (by omega)) ?_
                rw [hmu', hmuc, List.getElem?_append_left (by rw [hmul]; exact hpl)]
                exact (mucGet p b).2 ⟨i, hp, hb⟩
              · rw [setMany_out is _ _ i hi] at hB
                obtain ⟨cs, h1, h2, h3⟩ := hI.blk i B b hB hb
                have hbm : b ∉ muc := fun hm => by
                  obtain ⟨p, hp⟩ := List.mem_iff_getElem?.1 hm
                  obtain ⟨j, j1, j2⟩ := (mucGet p b).1 hp
                  have := nodup_get hI.nodup hb j2
                  subst this
                  exact hi (List.mem_iff_getElem?.2 ⟨p, j1⟩)
                refine ⟨cs, (hE.mem b (heap_lt h1) hbm fun p q hq hqb => ?_).trans h1, h2, hI.blkRep hEX h3⟩
                obtain ⟨j, _, j2⟩ := (rowscGet p q).1 hq
                exact (hI.row j q b j2 hqb).1 (List.mem_iff_getElem?.2 ⟨i, hb⟩)
            · rw [List.getElem?_append_right (by rw [setMany_length]; exact hge), setMany_length] at hB
              rw [List.getElem?_append_right (by rw [hI.muLen]; exact hge), hI.muLen] at hb
              simp only [List.getElem?_map, List.getElem?_drop, Option.map_eq_some_iff] at hB
              obtain ⟨B', hB', rfl⟩ := hB
              refine blkC _ B' b hB' ?_
              rw [hmu', hmuc, List.getElem?_append_right (by rw [hmul]; omega), hmul]
              rw [show is.length + (i - σ.length) - is.length = i - σ.length by omega]; exact hb
          rowsR := by
            have hR' := hI'.rowsR
            have hmap : ∀ (ks : List Nat) (l vs : List Row), (setMany l ks vs).map (fun r => (r.T, r.n)) = setMany (l.map fun r => (r.T, r.n)) ks (vs.map fun r => (r.T, r.n)) := by
              intro ks
              induction ks with
              | nil => intro l vs; simp [setMany]
              | cons k ks ih =>
                intro l vs
                cases vs with
                | nil => simp [setMany]
                | cons v vs => simp only [setMany, List.map_cons, ih, List.map_set]
            simp only [X', List.map_append, hmap, hI.rowsR, hR', List.map_drop]
          row := fun i r b hr hb => by
            have fromRow : ∀ p, Xc'.rows[p]? = some r → b ∉ Xc'.mu ∧ 0 < r.sz ∧ (∀ o, ¬ X.Z b o) ∧ ∃ cs cap, X'.w.heap[b]? = some (.cells cs r.T (0, 0)) ∧ cs.size = cap * r.sz ∧ r.n ≤ cap ∧ cap ≤ maxLen := fun p hp => by
              obtain ⟨k1, k2, k3, k4⟩ := hI'.row p r b hp hb
              exact ⟨k1, k2, fun o hz => k3 o (by rw [hE.Z]; exact .inl hz), k4⟩
            have notMu : ∀ p, Xc'.rows[p]? = some r → b ∉ X.mu ++ news := fun p hp hm => by
              obtain ⟨k1, _, _, _⟩ := fromRow p hp
              rw [hmu', hmuc] at k1
              rcases List.mem_append.1 hm with hm | hm
              · -- a variable of the caller's
                by_cases hmc : b ∈ muc
                · exact k1 (List.mem_append_left _ hmc)
                · have := (hI'.row p r b hp hb).2.2.1 0
                  exact this (by rw [hE.Z]; exact .inr (.inl ⟨hm, hmc⟩))
              · exact k1 (List.mem_append_right _ hm)
            rcases rowGet i r hr with ⟨p, hp, h⟩ | ⟨hi, h⟩ | ⟨_, h⟩
            · obtain ⟨_, k2, k3, k4⟩ := fromRow p h
              exact ⟨notMu p h, k2, k3, k4⟩
            · obtain ⟨k1, k2, k3, cs, cap, k4, k5⟩ := hI.row i r b h hb
              obtain ⟨o1, o2⟩ := outRow i r b h hi hb
              refine ⟨fun hm => ?_, k2, k3, cs, cap, (hE.mem b (heap_lt k4) o1 o2).trans k4, k5⟩
              rcases List.mem_append.1 (hm : b ∈ X.mu ++ news) with hm | hm
              · exact k1 hm
              · have := hnews b hm
                have := heap_lt k4
                simp only [Xc] at *
                omega
            · obtain ⟨_, k2, k3, k4⟩ := fromRow _ h
              exact ⟨notMu _ h, k2, k3, k4⟩
          row0 := fun i r hr hb => by
            rcases rowGet i r hr with ⟨p, hp, h⟩ | ⟨hi, h⟩ | ⟨_, h⟩
            · exact hI'.row0 p r h hb
            · exact hI.row0 i r h hb
            · exact hI'.row0 _ r h hb
          inj := fun i j r q b hr hq hrb hqb => by
            have old : ∀ (i : Nat) (r : Row) (p : Nat) (q : Row), i ∉ ks → X.rows[i]? = some r → r.blk = some b → Xc'.rows[p]? = some q → q.blk = some b → False := fun i r p q hi hr hrb hq hqb => by
              have hlt := hI.rowLt i r b hr hrb
              obtain ⟨o1, o2⟩ := outRow i r b hr hi hrb
              rcases Nat.lt_or_ge p rowsc.length with hp | hp
              · obtain ⟨q', h1, _, _, _, h2⟩ := hE.rows p rowsc[p] (List.getElem?_eq_getElem hp)
                rw [hq] at h1
                obtain rfl := Option.some.inj h1
                rcases h2 with ⟨h2, _⟩ | ⟨b', h2, h3⟩
                · exact o2 p rowsc[p] (List.getElem?_eq_getElem hp) (h2.symm.trans hqb)
                · rw [hqb] at h2; obtain rfl := Option.some.inj h2; simp only [Xc] at h3; omega
              · have := hE.news p q b hp hq hqb
                simp only [Xc] at this
                omega
            rcases rowGet i r hr with ⟨p, hp, h⟩ | ⟨hi, h⟩ | ⟨hil, h⟩ <;> rcases rowGet j q hq with ⟨p', hp', h'⟩ | ⟨hj, h'⟩ | ⟨hjl, h'⟩
            · have := hI'.inj p p' r q b h h' hrb hqb
              subst this
              rw [hp] at hp'
              exact Option.some.inj hp'
            · exact (old j q p r hj h' hqb h hrb).elim
            · have := hI'.inj p _ r q b h h' hrb hqb
              have := (List.getElem?_eq_some_iff.1 hp).1
              omega
            · exact (old i r p' q hi h hrb h' hqb).elim
            · exact hI.inj i j r q b h h' hrb hqb
            · exact (old i r _ q hi h hrb h' hqb).elim
            · have := hI'.inj _ p' r q b h h' hrb hqb
              have := (List.getElem?_eq_some_iff.1 hp').1
              omega
            · exact (old j q _ r hj h' hqb h hrb).elim
            · have := hI'.inj _ _ r q b h h' hrb hqb
              omega
          zlt := fun b o hz => Nat.lt_of_lt_of_le (hI.zlt b o hz) hszw
          glob := hI.glob' hEX }
    refine ⟨_, r, _, _, X', rfl, hK res σ' R' hQ, rfl, hEX, fun i b hb hHi => ?_, hIX, hresV⟩
    have hni : i ∉ is := fun h => by rw [hH i h] at hHi; cases hHi
    have hbm : b ∉ muc := fun hm => by
      obtain ⟨p, hp⟩ := List.mem_iff_getElem?.1 hm
      obtain ⟨j, j1, j2⟩ := (mucGet p b).1 hp
      have := nodup_get hI.nodup hb j2
      subst this
      exact hni (List.mem_iff_getElem?.2 ⟨p, j1⟩)
    refine hE.mem b (hI.muLt b (List.mem_iff_getElem?.2 ⟨i, hb⟩)) hbm fun p q hq hqb => ?_
    obtain ⟨j, _, j2⟩ := (rowscGet p q).1 hq
    exact (hI.row j q b j2 hqb).1 (List.mem_iff_getElem?.2 ⟨i, hb⟩)
end
end Go.Abs
