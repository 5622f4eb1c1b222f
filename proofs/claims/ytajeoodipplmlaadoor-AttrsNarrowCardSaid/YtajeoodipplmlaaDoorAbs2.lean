/-
  HOW THE WORLD GOES ON: a draw, a new variable, a store into a variable, a new row, an append to a row. Each keeps what was told ('Inv'), and goes on as 'Evo' says.
-/
import Derived.Test.YtajeoodipplmlaaDoorAbs1
set_option linter.all false
namespace Go.Abs
open Go Go.RowKit

theorem nodup_get {l : List Nat} (h : l.Nodup) {i j b : Nat} (hi : l[i]? = some b) (hj : l[j]? = some b) : i = j := by
  obtain ⟨h1, e1⟩ := List.getElem?_eq_some_iff.1 hi
  obtain ⟨h2, e2⟩ := List.getElem?_eq_some_iff.1 hj
  rcases Nat.lt_trichotomy i j with hlt | heq | hgt
  · exact absurd (e1.trans e2.symm) (List.pairwise_iff_getElem.1 h i j h1 h2 hlt)
  · exact heq
  · exact absurd (e2.trans e1.symm) (List.pairwise_iff_getElem.1 h j i h2 h1 hgt)

section
variable {G : Nat → Option (List LV)} {X X' : Ctx} {σ : List Blk} {R : RowsA}

theorem Inv.blkRep (h : Inv G X σ R) (e : Evo X X') {cells : List LV} {cs : Array Value}
    (hc : ∀ (j : Nat) (x : LV), cells[j]? = some x → ∃ r, cs[j]? = some r ∧ RepL X x r) : ∀ (j : Nat) (x : LV), cells[j]? = some x → ∃ r, cs[j]? = some r ∧ RepL X' x r :=
  fun j x hx => let ⟨r, h1, h2⟩ := hc j x hx; ⟨r, h1, e.repL h h2⟩

theorem Inv.glob' (h : Inv G X σ R) (e : Evo X X') : ∀ g cells, G g = some cells → ∀ (j : Nat) (x : LV), cells[j]? = some x → ∃ u, X'.Rd g j u ∧ Rep X'.Rd x u :=
  fun g cells hg j x hx => let ⟨u, h1, h2⟩ := h.glob g cells hg j x hx; ⟨u, e.rd h h1, e.rep h h2⟩

/-- A world with the same heap. -/
theorem Inv.same (h : Inv G X σ R) {w' : World} (hh : w'.heap = X.w.heap) (ho : w'.os = X.w.os) (ht : w'.tape = X.w.tape) (hp : w'.output = X.w.output) :
    Evo X { X with w := w' } ∧ Inv G { X with w := w' } σ R := by
  have e : Evo X { X with w := w' } :=
    { os := ho, tape := ht, output := hp, size := by simp [hh], mu := ⟨[], by simp, by simp⟩,
      rows := fun i r hr => ⟨r, hr, rfl, Nat.le_refl _, fun _ => rfl, .inl ⟨rfl, fun _ => rfl⟩⟩,
      news := fun i r' b hi hr => (by simp only at hr; rw [List.getElem?_eq_none hi] at hr; cases hr),
      Z := rfl, mem := fun b _ _ _ => by simp [hh],
      memrow := fun i r b hr hb => by
        obtain ⟨_, _, _, cs, cap, hc, _⟩ := h.row i r b hr hb
        exact ⟨cs, cs, hc, by simpa [hh] using hc, rfl, fun _ _ => rfl⟩ }
  refine ⟨e, ?_⟩
  exact
    { muLen := h.muLen, nodup := h.nodup,
      blk := fun i B b hB hb => by
        obtain ⟨cs, h1, h2, h3⟩ := h.blk i B b hB hb
        exact ⟨cs, by simpa [hh] using h1, h2, h.blkRep e h3⟩
      rowsR := h.rowsR,
      row := fun i r b hr hb => by
        obtain ⟨h1, h2, h3, cs, cap, h4, h5⟩ := h.row i r b hr hb
        exact ⟨h1, h2, h3, cs, cap, by simpa [hh] using h4, h5⟩
      row0 := h.row0, inj := h.inj, zlt := fun b o hz => by simpa [hh] using h.zlt b o hz, glob := h.glob' e }

/-- A draw. -/
theorem Inv.drew (h : Inv G X σ R) : Evo X { X with w := X.w.drew } ∧ Inv G { X with w := X.w.drew } σ R := h.same rfl rfl rfl rfl

/-- A new variable. -/
theorem Inv.alloc (h : Inv G X σ R) (T : TypeId) (cs : Array Value) (cells : List LV) (hs : cs.size = cells.length)
    (hc : ∀ (j : Nat) (x : LV), cells[j]? = some x → ∃ r, cs[j]? = some r ∧ RepL X x r) :
    Evo X { X with w := X.w.alloc (.cells cs T), mu := X.mu ++ [X.w.heap.size] } ∧
    Inv G { X with w := X.w.alloc (.cells cs T), mu := X.mu ++ [X.w.heap.size] } (σ ++ [⟨T, cells⟩]) R := by
  have hmu : ∀ b ∈ X.mu, b < X.w.heap.size := fun b hb => by
    obtain ⟨i, hi⟩ := List.mem_iff_getElem?.1 hb
    have hlt : i < σ.length := by rw [← h.muLen]; exact (List.getElem?_eq_some_iff.1 hi).1
    obtain ⟨cs', h1, _⟩ := h.blk i σ[i] b (List.getElem?_eq_getElem hlt) hi
    exact heap_lt h1
  have hrow : ∀ (i : Nat) (r : Row) (b : Nat), X.rows[i]? = some r → r.blk = some b → b < X.w.heap.size := fun i r b hr hb => by
    obtain ⟨_, _, _, cs', cap, hcc, _⟩ := h.row i r b hr hb
    exact heap_lt hcc
  have e : Evo X { X with w := X.w.alloc (.cells cs T), mu := X.mu ++ [X.w.heap.size] } :=
    { os := rfl, tape := rfl, output := rfl, size := by simp, mu := ⟨[X.w.heap.size], rfl, by simp⟩,
      rows := fun i r hr => ⟨r, hr, rfl, Nat.le_refl _, fun _ => rfl, .inl ⟨rfl, fun _ => rfl⟩⟩,
      news := fun i r' b hi hr => (by simp only at hr; rw [List.getElem?_eq_none hi] at hr; cases hr),
      Z := rfl, mem := fun b hb _ _ => heap_alloc_old X.w _ b hb,
      memrow := fun i r b hr hb => by
        obtain ⟨_, _, _, cs', cap, hcc, _⟩ := h.row i r b hr hb
        exact ⟨cs', cs', hcc, (heap_alloc_old X.w _ b (heap_lt hcc)).trans hcc, rfl, fun _ _ => rfl⟩ }
  refine ⟨e, ?_⟩
  exact
    { muLen := by simp [h.muLen],
      nodup := by
        rw [List.nodup_append]
        refine ⟨h.nodup, by simp, fun a ha b hb => ?_⟩
        have := hmu a ha
        simp at hb
        omega
      blk := fun i B b hB hb => by
        rcases Nat.lt_or_ge i σ.length with hlt | hge
        · rw [List.getElem?_append_left hlt] at hB
          simp only at hb
          rw [List.getElem?_append_left (by rw [h.muLen]; exact hlt)] at hb
          obtain ⟨cs', h1, h2, h3⟩ := h.blk i B b hB hb
          exact ⟨cs', (heap_alloc_old X.w _ b (heap_lt h1)).trans h1, h2, h.blkRep e h3⟩
        · simp only at hb
          rw [List.getElem?_append_right hge] at hB
          rw [List.getElem?_append_right (by rw [h.muLen]; exact hge), h.muLen] at hb
          cases hk : i - σ.length with
          | zero =>
            rw [hk] at hB hb
            simp at hB hb
            subst hB hb
            exact ⟨cs, heap_alloc_new X.w _, hs, h.blkRep e hc⟩
          | succ k => rw [hk] at hB; simp at hB
      rowsR := h.rowsR,
      row := fun i r b hr hb => by
        obtain ⟨h1, h2, h3, cs', cap, h4, h5⟩ := h.row i r b hr hb
        refine ⟨?_, h2, h3, cs', cap, (heap_alloc_old X.w _ b (heap_lt h4)).trans h4, h5⟩
        simp only [List.mem_append, List.mem_singleton]
        rintro (h' | h')
        · exact h1 h'
        · have := heap_lt h4; omega
      row0 := h.row0, inj := h.inj, zlt := fun b o hz => by have := h.zlt b o hz; simp; omega, glob := h.glob' e }

/-- A variable's cells anew. -/
theorem Inv.setBlk (h : Inv G X σ R) (i b : Nat) (B : Blk) (hB : σ[i]? = some B) (hb : X.mu[i]? = some b) (cs : Array Value) (cells : List LV) (hs : cs.size = cells.length)
    (hc : ∀ (j : Nat) (x : LV), cells[j]? = some x → ∃ r, cs[j]? = some r ∧ RepL X x r) :
    Evo X { X with w := X.w.setRow b cs } ∧ Inv G { X with w := X.w.setRow b cs } (σ.set i ⟨B.T, cells⟩) R := by
  obtain ⟨cs0, h0, hs0, hc0⟩ := h.blk i B b hB hb
  have hin : b ∈ X.mu := List.mem_iff_getElem?.2 ⟨i, hb⟩
  have e : Evo X { X with w := X.w.setRow b cs } :=
    { os := rfl, tape := rfl, output := rfl, size := by simp, mu := ⟨[], by simp, by simp⟩,
      rows := fun i r hr => ⟨r, hr, rfl, Nat.le_refl _, fun _ => rfl, .inl ⟨rfl, fun _ => rfl⟩⟩,
      news := fun i r' b hi hr => (by simp only at hr; rw [List.getElem?_eq_none hi] at hr; cases hr),
      Z := rfl, mem := fun k _ hk _ => setRow_other X.w b k cs (fun h' => hk (h' ▸ hin)),
      memrow := fun j r k hr hk => by
        obtain ⟨hn, _, _, cs', cap, hcc, _⟩ := h.row j r k hr hk
        exact ⟨cs', cs', hcc, (setRow_other X.w b k cs (fun h' => hn (h' ▸ hin))).trans hcc, rfl, fun _ _ => rfl⟩ }
  refine ⟨e, ?_⟩
  exact
    { muLen := by simp [h.muLen], nodup := h.nodup,
      blk := fun j B' b' hB' hb' => by
        simp only at hb'
        by_cases hij : i = j
        · subst hij
          rw [hb] at hb'
          obtain rfl := Option.some.inj hb'
          rw [List.getElem?_set_self (List.getElem?_eq_some_iff.1 hB).1] at hB'
          obtain rfl := Option.some.inj hB'
          exact ⟨cs, setRow_heap X.w b cs0 cs B.T (0, 0) h0, hs, h.blkRep e hc⟩
        · rw [List.getElem?_set_ne hij] at hB'
          obtain ⟨cs', h1, h2, h3⟩ := h.blk j B' b' hB' hb'
          refine ⟨cs', (setRow_other X.w b b' cs fun h' => hij ?_).trans h1, h2, h.blkRep e h3⟩
          subst h'
          exact nodup_get h.nodup hb hb'
      rowsR := h.rowsR,
      row := fun j r k hr hk => by
        obtain ⟨h1, h2, h3, cs', cap, h4, h5⟩ := h.row j r k hr hk
        exact ⟨h1, h2, h3, cs', cap, (setRow_other X.w b k cs (fun h' => h1 (h' ▸ hin))).trans h4, h5⟩
      row0 := h.row0, inj := h.inj, zlt := fun k o hz => by simpa using h.zlt k o hz, glob := h.glob' e }

theorem Inv.muLt (h : Inv G X σ R) : ∀ b ∈ X.mu, b < X.w.heap.size := fun b hb => by
  obtain ⟨i, hi⟩ := List.mem_iff_getElem?.1 hb
  have hlt : i < σ.length := by rw [← h.muLen]; exact (List.getElem?_eq_some_iff.1 hi).1
  obtain ⟨cs', h1, _⟩ := h.blk i σ[i] b (List.getElem?_eq_getElem hlt) hi
  exact heap_lt h1
theorem Inv.rowLt (h : Inv G X σ R) : ∀ (i : Nat) (r : Row) (b : Nat), X.rows[i]? = some r → r.blk = some b → b < X.w.heap.size := fun i r b hr hb => by
  obtain ⟨_, _, _, cs', cap, hcc, _⟩ := h.row i r b hr hb
  exact heap_lt hcc

/-- A new row, with a block of its own. -/
theorem Inv.newRow (h : Inv G X σ R) (T : TypeId) (cs : Array Value) (sz n cap : Nat) (hsz : 0 < sz) (hs : cs.size = cap * sz) (hn : n ≤ cap) (hm : cap ≤ maxLen) :
    Evo X { X with w := X.w.alloc (.cells cs T), rows := X.rows ++ [⟨some X.w.heap.size, sz, T, n⟩] } ∧
    Inv G { X with w := X.w.alloc (.cells cs T), rows := X.rows ++ [⟨some X.w.heap.size, sz, T, n⟩] } σ (R ++ [(T, n)]) := by
  have hmu := h.muLt
  have hrow := h.rowLt
  have getl : ∀ (i : Nat) (r : Row), X.rows[i]? = some r → (X.rows ++ [⟨some X.w.heap.size, sz, T, n⟩])[i]? = some r := fun i r hr => by
    rw [List.getElem?_append_left (List.getElem?_eq_some_iff.1 hr).1, hr]
  have getr : ∀ (i : Nat) (r : Row), (X.rows ++ [⟨some X.w.heap.size, sz, T, n⟩])[i]? = some r → (X.rows[i]? = some r ∧ i < X.rows.length) ∨ (i = X.rows.length ∧ r = ⟨some X.w.heap.size, sz, T, n⟩) := fun i r hr => by
    rcases Nat.lt_or_ge i X.rows.length with hlt | hge
    · rw [List.getElem?_append_left hlt] at hr
      exact .inl ⟨hr, hlt⟩
    · rw [List.getElem?_append_right hge] at hr
      cases hk : i - X.rows.length with
      | zero => rw [hk] at hr; simp at hr; exact .inr ⟨by omega, hr.symm⟩
      | succ k => rw [hk] at hr; simp at hr
  have e : Evo X { X with w := X.w.alloc (.cells cs T), rows := X.rows ++ [⟨some X.w.heap.size, sz, T, n⟩] } :=
    { os := rfl, tape := rfl, output := rfl, size := by simp, mu := ⟨[], by simp, by simp⟩,
      rows := fun i r hr => ⟨r, getl i r hr, rfl, Nat.le_refl _, fun _ => rfl, .inl ⟨rfl, fun _ => rfl⟩⟩,
      news := fun i r' b hi hr hb => by
        rcases getr i r' hr with ⟨_, hlt⟩ | ⟨_, rfl⟩
        · omega
        · simp at hb; omega
      Z := rfl, mem := fun b hb _ _ => heap_alloc_old X.w _ b hb,
      memrow := fun i r b hr hb => by
        obtain ⟨_, _, _, cs', cap, hcc, _⟩ := h.row i r b hr hb
        exact ⟨cs', cs', hcc, (heap_alloc_old X.w _ b (heap_lt hcc)).trans hcc, rfl, fun _ _ => rfl⟩ }
  refine ⟨e, ?_⟩
  exact
    { muLen := h.muLen, nodup := h.nodup,
      blk := fun i B b hB hb => by
        obtain ⟨cs', h1, h2, h3⟩ := h.blk i B b hB hb
        exact ⟨cs', (heap_alloc_old X.w _ b (heap_lt h1)).trans h1, h2, h.blkRep e h3⟩
      rowsR := by simp [h.rowsR],
      row := fun i r b hr hb => by
        rcases getr i r hr with ⟨hr', hlt⟩ | ⟨rfl, rfl⟩
        · obtain ⟨h1, h2, h3, cs', cap', h4, h5⟩ := h.row i r b hr' hb
          exact ⟨h1, h2, h3, cs', cap', (heap_alloc_old X.w _ b (heap_lt h4)).trans h4, h5⟩
        · simp only [Option.some.injEq] at hb
          subst hb
          refine ⟨fun hb => ?_, hsz, fun o hz => ?_, cs, cap, heap_alloc_new X.w _, hs, hn, hm⟩
          · have := hmu _ hb; omega
          · have := h.zlt _ _ hz; omega
      row0 := fun i r hr hb => by
        rcases getr i r hr with ⟨hr', hlt⟩ | ⟨rfl, rfl⟩
        · exact h.row0 i r hr' hb
        · cases hb
      inj := fun i j r q b hr hq hrb hqb => by
        rcases getr i r hr with ⟨hr', hlt⟩ | ⟨rfl, rfl⟩ <;> rcases getr j q hq with ⟨hq', hlt'⟩ | ⟨rfl, rfl⟩
        · exact h.inj i j r q b hr' hq' hrb hqb
        · have := hrow i r b hr' hrb; simp at hqb; omega
        · have := hrow j q b hq' hqb; simp at hrb; omega
        · rfl
      zlt := fun b o hz => by have := h.zlt b o hz; simp; omega, glob := h.glob' e }

/-- A row without a block yet. -/
theorem Inv.emptyRow (h : Inv G X σ R) (T : TypeId) (sz : Nat) :
    Evo X { X with rows := X.rows ++ [⟨none, sz, T, 0⟩] } ∧ Inv G { X with rows := X.rows ++ [⟨none, sz, T, 0⟩] } σ (R ++ [(T, 0)]) := by
  have getl : ∀ (i : Nat) (r : Row), X.rows[i]? = some r → (X.rows ++ [⟨none, sz, T, 0⟩])[i]? = some r := fun i r hr => by
    rw [List.getElem?_append_left (List.getElem?_eq_some_iff.1 hr).1, hr]
  have getr : ∀ (i : Nat) (r : Row), (X.rows ++ [⟨none, sz, T, 0⟩])[i]? = some r → (X.rows[i]? = some r ∧ i < X.rows.length) ∨ (i = X.rows.length ∧ r = ⟨none, sz, T, 0⟩) := fun i r hr => by
    rcases Nat.lt_or_ge i X.rows.length with hlt | hge
    · rw [List.getElem?_append_left hlt] at hr
      exact .inl ⟨hr, hlt⟩
    · rw [List.getElem?_append_right hge] at hr
      cases hk : i - X.rows.length with
      | zero => rw [hk] at hr; simp at hr; exact .inr ⟨by omega, hr.symm⟩
      | succ k => rw [hk] at hr; simp at hr
  have e : Evo X { X with rows := X.rows ++ [⟨none, sz, T, 0⟩] } :=
    { os := rfl, tape := rfl, output := rfl, size := Nat.le_refl _, mu := ⟨[], by simp, by simp⟩,
      rows := fun i r hr => ⟨r, getl i r hr, rfl, Nat.le_refl _, fun _ => rfl, .inl ⟨rfl, fun _ => rfl⟩⟩,
      news := fun i r' b hi hr hb => by
        rcases getr i r' hr with ⟨_, hlt⟩ | ⟨_, rfl⟩
        · omega
        · simp at hb
      Z := rfl, mem := fun b hb _ _ => rfl,
      memrow := fun i r b hr hb => by
        obtain ⟨_, _, _, cs', cap, hcc, _⟩ := h.row i r b hr hb
        exact ⟨cs', cs', hcc, hcc, rfl, fun _ _ => rfl⟩ }
  refine ⟨e, ?_⟩
  exact
    { muLen := h.muLen, nodup := h.nodup,
      blk := fun i B b hB hb => by
        obtain ⟨cs', h1, h2, h3⟩ := h.blk i B b hB hb
        exact ⟨cs', h1, h2, h.blkRep e h3⟩
      rowsR := by simp [h.rowsR],
      row := fun i r b hr hb => by
        rcases getr i r hr with ⟨hr', hlt⟩ | ⟨rfl, rfl⟩
        · exact h.row i r b hr' hb
        · cases hb
      row0 := fun i r hr hb => by
        rcases getr i r hr with ⟨hr', hlt⟩ | ⟨rfl, rfl⟩
        · exact h.row0 i r hr' hb
        · rfl
      inj := fun i j r q b hr hq hrb hqb => by
        rcases getr i r hr with ⟨hr', hlt⟩ | ⟨rfl, rfl⟩ <;> rcases getr j q hq with ⟨hq', hlt'⟩ | ⟨rfl, rfl⟩
        · exact h.inj i j r q b hr' hq' hrb hqb
        · cases hqb
        · cases hrb
        · rfl
      zlt := h.zlt, glob := h.glob' e }

theorem rows_set_get {l : List Row} {i j : Nat} {q r : Row} (h : (l.set i q)[j]? = some r) (hi : i < l.length) : (j = i ∧ r = q) ∨ (j ≠ i ∧ l[j]? = some r) := by
  by_cases hij : i = j
  · subst hij
    rw [List.getElem?_set_self hi] at h
    exact .inl ⟨rfl, (Option.some.inj h).symm⟩
  · rw [List.getElem?_set_ne hij] at h
    exact .inr ⟨fun h' => hij h'.symm, h⟩

/-- More elements in a row's own block. -/
theorem Inv.fillRow (h : Inv G X σ R) (i b n' cap : Nat) (q : Row) (cs cs0 : Array Value) (hq : X.rows[i]? = some q) (hb : q.blk = some b)
    (h0 : X.w.heap[b]? = some (.cells cs0 q.T (0, 0))) (hs : cs.size = cs0.size) (hcap : cs0.size = cap * q.sz) (hm : cap ≤ maxLen) (hn : q.n < n') (hn' : n' ≤ cap)
    (hkeep : ∀ o, o < q.n * q.sz → cs[o]? = cs0[o]?) :
    Evo X { X with w := X.w.setRow b cs, rows := X.rows.set i { q with n := n' } } ∧
    Inv G { X with w := X.w.setRow b cs, rows := X.rows.set i { q with n := n' } } σ (R.set i (q.T, n')) := by
  have hi : i < X.rows.length := (List.getElem?_eq_some_iff.1 hq).1
  obtain ⟨hbmu, hsz, hbz, _⟩ := h.row i q b hq hb
  have e : Evo X { X with w := X.w.setRow b cs, rows := X.rows.set i { q with n := n' } } :=
    { os := rfl, tape := rfl, output := rfl, size := by simp, mu := ⟨[], by simp, by simp⟩,
      rows := fun j r hr => by
        by_cases hij : i = j
        · subst hij
          rw [hq] at hr
          obtain rfl := Option.some.inj hr
          exact ⟨_, List.getElem?_set_self hi, rfl, by simp; omega, fun h' => by simp at h'; omega, .inl ⟨rfl, fun _ => rfl⟩⟩
        · exact ⟨r, by simp only; rw [List.getElem?_set_ne hij]; exact hr, rfl, Nat.le_refl _, fun _ => rfl, .inl ⟨rfl, fun _ => rfl⟩⟩
      news := fun j r' k hj hr => (by simp only at hr; rw [List.getElem?_eq_none (by simpa using hj)] at hr; cases hr)
      Z := rfl, mem := fun k _ _ hk => setRow_other X.w b k cs (fun h' => hk i q hq (h' ▸ hb)),
      memrow := fun j r k hr hk => by
        by_cases hij : i = j
        · subst hij
          rw [hq] at hr
          obtain rfl := Option.some.inj hr
          rw [hb] at hk
          obtain rfl := Option.some.inj hk
          exact ⟨cs0, cs, h0, setRow_heap X.w b cs0 cs q.T (0, 0) h0, hs, hkeep⟩
        · obtain ⟨_, _, _, cs', cap', hcc, _⟩ := h.row j r k hr hk
          have hne : k ≠ b := fun h' => hij (h.inj i j q r b hq hr hb (h' ▸ hk))
          exact ⟨cs', cs', hcc, (setRow_other X.w b k cs hne).trans hcc, rfl, fun _ _ => rfl⟩ }
  refine ⟨e, ?_⟩
  exact
    { muLen := h.muLen, nodup := h.nodup,
      blk := fun j B k hB hk => by
        obtain ⟨cs', h1, h2, h3⟩ := h.blk j B k hB hk
        have hne : k ≠ b := fun h' => hbmu (h' ▸ List.mem_iff_getElem?.2 ⟨j, hk⟩)
        exact ⟨cs', (setRow_other X.w b k cs hne).trans h1, h2, h.blkRep e h3⟩
      rowsR := by rw [← h.rowsR]; simp [List.map_set],
      row := fun j r k hr hk => by
        rcases rows_set_get hr hi with ⟨rfl, rfl⟩ | ⟨hne, hr'⟩
        · simp only at hk
          rw [hb] at hk
          obtain rfl := Option.some.inj hk
          exact ⟨hbmu, hsz, hbz, cs, cap, setRow_heap X.w b cs0 cs q.T (0, 0) h0, by rw [hs, hcap], hn', hm⟩
        · obtain ⟨h1, h2, h3, cs', cap', h4, h5⟩ := h.row j r k hr' hk
          have hne' : k ≠ b := fun h' => hne (h.inj j i r q b hr' hq (h' ▸ hk) hb)
          exact ⟨h1, h2, h3, cs', cap', (setRow_other X.w b k cs hne').trans h4, h5⟩
      row0 := fun j r hr hk => by
        rcases rows_set_get hr hi with ⟨rfl, rfl⟩ | ⟨hne, hr'⟩
        · simp only at hk; rw [hb] at hk; cases hk
        · exact h.row0 j r hr' hk
      inj := fun j k r r' c hr hr' hc hc' => by
        rcases rows_set_get hr hi with ⟨rfl, rfl⟩ | ⟨hne, hr1⟩ <;> rcases rows_set_get hr' hi with ⟨rfl, rfl⟩ | ⟨hne', hr2⟩
        · rfl
        · exact h.inj _ _ q r' c hq hr2 hc hc'
        · exact h.inj _ _ r q c hr1 hq hc hc'
        · exact h.inj _ _ r r' c hr1 hr2 hc hc'
      zlt := fun k o hz => by simpa using h.zlt k o hz, glob := h.glob' e }

/-- A row in a new block. -/
theorem Inv.moveRow (h : Inv G X σ R) (i n' cap sz : Nat) (q : Row) (cs : Array Value) (hq : X.rows[i]? = some q) (hsz : 0 < sz)
    (hcap : cs.size = cap * sz) (hm : cap ≤ maxLen) (hn : q.n < n') (hn' : n' ≤ cap) :
    Evo X { X with w := X.w.alloc (.cells cs q.T), rows := X.rows.set i ⟨some X.w.heap.size, sz, q.T, n'⟩ } ∧
    Inv G { X with w := X.w.alloc (.cells cs q.T), rows := X.rows.set i ⟨some X.w.heap.size, sz, q.T, n'⟩ } σ (R.set i (q.T, n')) := by
  have hi : i < X.rows.length := (List.getElem?_eq_some_iff.1 hq).1
  have hmu := h.muLt
  have hrow := h.rowLt
  have e : Evo X { X with w := X.w.alloc (.cells cs q.T), rows := X.rows.set i ⟨some X.w.heap.size, sz, q.T, n'⟩ } :=
    { os := rfl, tape := rfl, output := rfl, size := by simp, mu := ⟨[], by simp, by simp⟩,
      rows := fun j r hr => by
        by_cases hij : i = j
        · subst hij
          rw [hq] at hr
          obtain rfl := Option.some.inj hr
          exact ⟨_, List.getElem?_set_self hi, rfl, by simp; omega, fun h' => by simp at h'; omega, .inr ⟨_, rfl, Nat.le_refl _⟩⟩
        · exact ⟨r, by simp only; rw [List.getElem?_set_ne hij]; exact hr, rfl, Nat.le_refl _, fun _ => rfl, .inl ⟨rfl, fun _ => rfl⟩⟩
      news := fun j r' k hj hr => (by simp only at hr; rw [List.getElem?_eq_none (by simpa using hj)] at hr; cases hr)
      Z := rfl, mem := fun k hk _ _ => heap_alloc_old X.w _ k hk,
      memrow := fun j r k hr hk => by
        obtain ⟨_, _, _, cs', cap', hcc, _⟩ := h.row j r k hr hk
        exact ⟨cs', cs', hcc, (heap_alloc_old X.w _ k (heap_lt hcc)).trans hcc, rfl, fun _ _ => rfl⟩ }
  refine ⟨e, ?_⟩
  exact
    { muLen := h.muLen, nodup := h.nodup,
      blk := fun j B k hB hk => by
        obtain ⟨cs', h1, h2, h3⟩ := h.blk j B k hB hk
        exact ⟨cs', (heap_alloc_old X.w _ k (heap_lt h1)).trans h1, h2, h.blkRep e h3⟩
      rowsR := by rw [← h.rowsR]; simp [List.map_set],
      row := fun j r k hr hk => by
        rcases rows_set_get hr hi with ⟨rfl, rfl⟩ | ⟨hne, hr'⟩
        · simp only [Option.some.injEq] at hk
          subst hk
          refine ⟨fun hb => ?_, hsz, fun o hz => ?_, cs, cap, heap_alloc_new X.w _, hcap, hn', hm⟩
          · have := hmu _ hb; omega
          · have := h.zlt _ _ hz; omega
        · obtain ⟨h1, h2, h3, cs', cap', h4, h5⟩ := h.row j r k hr' hk
          exact ⟨h1, h2, h3, cs', cap', (heap_alloc_old X.w _ k (heap_lt h4)).trans h4, h5⟩
      row0 := fun j r hr hk => by
        rcases rows_set_get hr hi with ⟨rfl, rfl⟩ | ⟨hne, hr'⟩
        · cases hk
        · exact h.row0 j r hr' hk
      inj := fun j k r r' c hr hr' hc hc' => by
        rcases rows_set_get hr hi with ⟨rfl, rfl⟩ | ⟨hne, hr1⟩ <;> rcases rows_set_get hr' hi with ⟨rfl, rfl⟩ | ⟨hne', hr2⟩
        · rfl
        · have := hrow _ r' c hr2 hc'; simp at hc; omega
        · have := hrow _ r c hr1 hc; simp at hc'; omega
        · exact h.inj _ _ r r' c hr1 hr2 hc hc'
      zlt := fun k o hz => by have := h.zlt k o hz; simp; omega, glob := h.glob' e }
end
end Go.Abs
