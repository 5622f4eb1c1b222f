/-
  ABSTRACT VALUES AND STORES OVER A PROGRAM OF THE MODEL: values without addresses (a slice is the list of its elements), variables by their place in a list, rows that may be appended to. What of the model's world they tell ('Rep', 'RepL', 'Inv'), and how a world may go on ('Evo'). Conditions: none; the laws are over any world.
-/
import Derived.OrdersHeld
import Derived.Below
set_option linter.all false
namespace Go.Abs
open Go Go.RowKit

inductive Own where
  | shared
  | cap0
  | row (i : Nat)

/-- A value of one cell. -/
inductive LV where
  | int (k : IntKind) (n : Int)
  | bool (b : Bool)
  | str (l : List Int)
  | nilp
  | ptr (i off : Nat)
  | eptr (cells : List LV) (off : Nat)
  | slice (own : Own) (sz : Nat) (elems : List (List LV))
  | fn (f : FuncId) (caps : List (Nat × Nat))
  | mfn (f : FuncId) (i off : Nat)
  | vsl (i off sz len : Nat)

def strInts (s : ByteArray) : List Int := s.data.toList.map fun b => (b.toNat : Int)

/-- What a cell's value tells, where 'Rd b o v' says that cell (b, o) is there to be read and holds v. -/
inductive Rep (Rd : Nat → Nat → Value → Prop) : LV → Value → Prop
  | int (k : IntKind) (n : Int) : Rep Rd (.int k n) (.int k n)
  | bool (b : Bool) : Rep Rd (.bool b) (.bool b)
  | str (s : ByteArray) : Rep Rd (.str (strInts s)) (.string s)
  | nilp : Rep Rd .nilp (.pointer none)
  | slice (elems : List (List LV)) (a : Option Addr) (cap b o sz : Nat) (vf : Nat → Nat → Value) (hcap : elems.length ≤ cap) (hmax : cap ≤ maxLen)
      (hsz : ∀ c ∈ elems, c.length = sz) (ha : elems = [] ∨ a = some ⟨b, o, none⟩)
      (hrd : ∀ i j, i < elems.length → j < sz → Rd b (o + (i * sz + j)) (vf i j))
      (hrep : ∀ i j c x, elems[i]? = some c → c[j]? = some x → Rep Rd x (vf i j)) : Rep Rd (.slice .shared sz elems) (.slice a elems.length cap)

theorem Rep.mono {Rd Rd' : Nat → Nat → Value → Prop} (h : ∀ b o v, Rd b o v → Rd' b o v) {x : LV} {r : Value} (hr : Rep Rd x r) : Rep Rd' x r := by
  induction hr with
  | int => exact .int _ _
  | bool => exact .bool _
  | str => exact .str _
  | nilp => exact .nilp
  | slice elems a cap b o sz vf hcap hmax hsz ha hrd _ ih =>
    exact .slice elems a cap b o sz vf hcap hmax hsz ha (fun i j hi hj => h _ _ _ (hrd i j hi hj)) ih

/-- A row that may be appended to: its block, if it has one yet; the cells of an element; their type; how many elements there are. -/
structure Row where
  blk : Option Nat
  sz : Nat
  T : TypeId
  n : Nat

structure Ctx where
  w : World
  mu : List Nat
  rows : List Row
  Z : Nat → Nat → Prop

def Ctx.Free (X : Ctx) (b o : Nat) : Prop := ∃ (i : Nat) (r : Row), X.rows[i]? = some r ∧ r.blk = some b ∧ r.n * r.sz ≤ o
def Ctx.Rd (X : Ctx) (b o : Nat) (v : Value) : Prop := X.w.cell? ⟨b, o, none⟩ = some v ∧ b ∉ X.mu ∧ ¬ X.Free b o ∧ ¬ X.Z b o

def OwnOk (X : Ctx) (i sz len : Nat) (r : Value) : Prop :=
  ∃ q : Row, X.rows[i]? = some q ∧ len ≤ q.n ∧ (len = q.n →
    (q.blk = none ∧ ∃ a, r = .slice a 0 0) ∨ ∃ b cap cs, q.blk = some b ∧ q.sz = sz ∧ r = .slice (some ⟨b, 0, none⟩) len cap ∧ X.w.heap[b]? = some (.cells cs q.T (0, 0)) ∧ cs.size = cap * q.sz)

def RepL (X : Ctx) : LV → Value → Prop
  | .ptr i off, r => ∃ b, X.mu[i]? = some b ∧ r = .pointer (some ⟨b, off, none⟩)
  | .eptr cells off, r => ∃ b o, r = .pointer (some ⟨b, o + off, none⟩) ∧ ∀ (j : Nat) (x : LV), cells[j]? = some x → ∃ u, X.Rd b (o + j) u ∧ Rep X.Rd x u
  | .slice .cap0 _ elems, r => elems = [] ∧ ∃ a, r = .slice a 0 0
  | .slice (.row i) sz elems, r => Rep X.Rd (.slice .shared sz elems) r ∧ OwnOk X i sz elems.length r
  | .fn f caps, r => ∃ rs : Array Value, r = .func (.func f) #[] rs ∧ caps.length = rs.size ∧
      ∀ (j : Nat) (c : Nat × Nat), caps[j]? = some c → ∃ b, X.mu[c.1]? = some b ∧ rs[j]? = some (.pointer (some ⟨b, c.2, none⟩))
  | .mfn f i off, r => ∃ b, X.mu[i]? = some b ∧ r = .func (.func f) #[.pointer (some ⟨b, off, none⟩)] #[]
  | .vsl i off _ len, r => ∃ b cap, X.mu[i]? = some b ∧ r = .slice (some ⟨b, off, none⟩) len cap ∧ len ≤ cap ∧ cap ≤ maxLen
  | x, r => Rep X.Rd x r

/-- A variable: the type of its block, what its cells hold. -/
structure Blk where
  T : TypeId
  cells : List LV

abbrev RowsA := List (TypeId × Nat)

structure Inv (G : Nat → Option (List LV)) (X : Ctx) (σ : List Blk) (R : RowsA) : Prop where
  muLen : X.mu.length = σ.length
  nodup : X.mu.Nodup
  blk : ∀ (i : Nat) (B : Blk) (b : Nat), σ[i]? = some B → X.mu[i]? = some b → ∃ cs, X.w.heap[b]? = some (.cells cs B.T (0, 0)) ∧ cs.size = B.cells.length ∧
    ∀ (j : Nat) (x : LV), B.cells[j]? = some x → ∃ r, cs[j]? = some r ∧ RepL X x r
  rowsR : X.rows.map (fun r => (r.T, r.n)) = R
  row : ∀ (i : Nat) (r : Row) (b : Nat), X.rows[i]? = some r → r.blk = some b → b ∉ X.mu ∧ 0 < r.sz ∧ (∀ o, ¬ X.Z b o) ∧
    ∃ cs cap, X.w.heap[b]? = some (.cells cs r.T (0, 0)) ∧ cs.size = cap * r.sz ∧ r.n ≤ cap ∧ cap ≤ maxLen
  row0 : ∀ (i : Nat) (r : Row), X.rows[i]? = some r → r.blk = none → r.n = 0
  inj : ∀ (i j : Nat) (r q : Row) (b : Nat), X.rows[i]? = some r → X.rows[j]? = some q → r.blk = some b → q.blk = some b → i = j
  zlt : ∀ b o, X.Z b o → b < X.w.heap.size
  glob : ∀ g cells, G g = some cells → ∀ (j : Nat) (x : LV), cells[j]? = some x → ∃ u, X.Rd g j u ∧ Rep X.Rd x u

structure Evo (X X' : Ctx) : Prop where
  os : X'.w.os = X.w.os
  tape : X'.w.tape = X.w.tape
  output : X'.w.output = X.w.output
  size : X.w.heap.size ≤ X'.w.heap.size
  mu : ∃ news, X'.mu = X.mu ++ news ∧ ∀ b ∈ news, X.w.heap.size ≤ b
  rows : ∀ (i : Nat) (r : Row), X.rows[i]? = some r → ∃ r', X'.rows[i]? = some r' ∧ r'.T = r.T ∧ r.n ≤ r'.n ∧ (r'.n = r.n → r' = r) ∧
    ((r'.blk = r.blk ∧ (r.blk ≠ none → r'.sz = r.sz)) ∨ ∃ b, r'.blk = some b ∧ X.w.heap.size ≤ b)
  news : ∀ (i : Nat) (r' : Row) (b : Nat), X.rows.length ≤ i → X'.rows[i]? = some r' → r'.blk = some b → X.w.heap.size ≤ b
  Z : X'.Z = X.Z
  mem : ∀ b, b < X.w.heap.size → b ∉ X.mu → (∀ (i : Nat) (r : Row), X.rows[i]? = some r → r.blk ≠ some b) → X'.w.heap[b]? = X.w.heap[b]?
  memrow : ∀ (i : Nat) (r : Row) (b : Nat), X.rows[i]? = some r → r.blk = some b → ∃ cs cs', X.w.heap[b]? = some (.cells cs r.T (0, 0)) ∧ X'.w.heap[b]? = some (.cells cs' r.T (0, 0)) ∧
    cs'.size = cs.size ∧ ∀ o, o < r.n * r.sz → cs'[o]? = cs[o]?

theorem heap_lt {w : World} {b : Nat} {o : Obj} (h : w.heap[b]? = some o) : b < w.heap.size := (Array.getElem?_eq_some_iff.1 h).1
theorem cell_heap {w : World} {b o : Nat} {cs : Array Value} {T : TypeId} {fz : Nat × Nat} (h : w.heap[b]? = some (.cells cs T fz)) : w.cell? ⟨b, o, none⟩ = cs[o]? := by
  simp [World.cell?, h]
theorem cell_block {w w' : World} {b o : Nat} (h : w'.heap[b]? = w.heap[b]?) : w'.cell? ⟨b, o, none⟩ = w.cell? ⟨b, o, none⟩ := by
  simp [World.cell?, h]

section
variable {G : Nat → Option (List LV)} {X X' X'' : Ctx} {σ : List Blk} {R : RowsA}

theorem Evo.refl (h : Inv G X σ R) : Evo X X where
  os := rfl
  tape := rfl
  output := rfl
  size := Nat.le_refl _
  mu := ⟨[], by simp, by simp⟩
  rows := fun i r hr => ⟨r, hr, rfl, Nat.le_refl _, fun _ => rfl, .inl ⟨rfl, fun _ => rfl⟩⟩
  news := fun i r' b hi hr => by
    rw [List.getElem?_eq_none hi] at hr; cases hr
  Z := rfl
  mem := fun _ _ _ _ => rfl
  memrow := fun i r b hr hb => by
    obtain ⟨_, _, _, cs, cap, hc, _⟩ := h.row i r b hr hb
    exact ⟨cs, cs, hc, hc, rfl, fun _ _ => rfl⟩

theorem Evo.rd (h : Inv G X σ R) (e : Evo X X') {b o : Nat} {v : Value} (hr : X.Rd b o v) : X'.Rd b o v := by
  obtain ⟨hc, hmu, hf, hz⟩ := hr
  have hb : b < X.w.heap.size := World.block_lt_of_cell? X.w ⟨b, o, none⟩ hc
  refine ⟨?_, ?_, ?_, ?_⟩
  · by_cases hrow : ∃ (i : Nat) (r : Row), X.rows[i]? = some r ∧ r.blk = some b
    · obtain ⟨i, r, hi, hrb⟩ := hrow
      obtain ⟨cs, cs', h1, h2, _, h4⟩ := e.memrow i r b hi hrb
      have ho : o < r.n * r.sz := by
        rcases Nat.lt_or_ge o (r.n * r.sz) with h' | h'
        · exact h'
        · exact absurd ⟨i, r, hi, hrb, h'⟩ hf
      rw [cell_heap h2, h4 o ho, ← cell_heap h1]; exact hc
    · rw [cell_block (e.mem b hb hmu fun i r hi hrb => hrow ⟨i, r, hi, hrb⟩)]; exact hc
  · obtain ⟨news, hm, hn⟩ := e.mu
    rw [hm, List.mem_append]
    rintro (h' | h')
    · exact hmu h'
    · have := hn b h'; omega
  · rintro ⟨i, r', hi, hrb, hle⟩
    rcases Nat.lt_or_ge i X.rows.length with hlt | hge
    · obtain ⟨r'', hr'', hT, hn, _, hor⟩ := e.rows i X.rows[i] (List.getElem?_eq_getElem hlt)
      rw [hi] at hr''
      obtain rfl : r' = r'' := Option.some.inj hr''
      rcases hor with ⟨hbl, hs⟩ | ⟨b', hb', hge⟩
      · rw [hrb] at hbl
        have hs' := hs (by rw [← hbl]; simp)
        refine hf ⟨i, X.rows[i], List.getElem?_eq_getElem hlt, hbl.symm, ?_⟩
        rw [hs'] at hle
        exact Nat.le_trans (Nat.mul_le_mul_right _ hn) hle
      · rw [hrb] at hb'
        obtain rfl : b = b' := Option.some.inj hb'
        omega
    · have := e.news i r' b hge hi hrb; omega
  · rw [e.Z]; exact hz

theorem Evo.rep (h : Inv G X σ R) (e : Evo X X') {x : LV} {v : Value} (hr : Rep X.Rd x v) : Rep X'.Rd x v := hr.mono fun _ _ _ => e.rd h

theorem Evo.muGet (e : Evo X X') {i b : Nat} (h : X.mu[i]? = some b) : X'.mu[i]? = some b := by
  obtain ⟨news, hm, _⟩ := e.mu
  rw [hm, List.getElem?_append_left (List.getElem?_eq_some_iff.1 h).1, h]

theorem Evo.own (e : Evo X X') {i sz len : Nat} {r : Value} (ho : OwnOk X i sz len r) : OwnOk X' i sz len r := by
  obtain ⟨q, hq, hle, hcond⟩ := ho
  obtain ⟨q', hq', hT, hn, hsame, _⟩ := e.rows i q hq
  refine ⟨q', hq', Nat.le_trans hle hn, fun heq => ?_⟩
  have hqn : q'.n = q.n := by omega
  obtain rfl := hsame hqn
  rcases hcond heq with h1 | ⟨b, cap, cs, hb, hsz, hr, hc, hs⟩
  · exact .inl h1
  · obtain ⟨cs1, cs', h1, h2, h3, _⟩ := e.memrow i q' b hq hb
    rw [h1] at hc
    injection hc with hc
    injection hc with hc
    exact .inr ⟨b, cap, cs', hb, hsz, hr, h2, by rw [h3, hc]; exact hs⟩

theorem Evo.repL (h : Inv G X σ R) (e : Evo X X') : ∀ {x : LV} {v : Value}, RepL X x v → RepL X' x v := by
  intro x v hr
  cases x with
  | ptr i off =>
    obtain ⟨b, hb, rfl⟩ := hr
    exact ⟨b, e.muGet hb, rfl⟩
  | eptr cells off =>
    obtain ⟨b, o, rfl, hc⟩ := hr
    refine ⟨b, o, rfl, fun j x hx => ?_⟩
    obtain ⟨u, h1, h2⟩ := hc j x hx
    exact ⟨u, e.rd h h1, e.rep h h2⟩
  | slice own sz elems =>
    cases own with
    | shared => exact e.rep h hr
    | cap0 => exact hr
    | row i => exact ⟨e.rep h hr.1, e.own hr.2⟩
  | fn f caps =>
    obtain ⟨rs, rfl, hl, hc⟩ := hr
    refine ⟨rs, rfl, hl, fun j c hj => ?_⟩
    obtain ⟨b, hb, hv⟩ := hc j c hj
    exact ⟨b, e.muGet hb, hv⟩
  | mfn f i off =>
    obtain ⟨b, hb, rfl⟩ := hr
    exact ⟨b, e.muGet hb, rfl⟩
  | vsl i off sz len =>
    obtain ⟨b, cap, hb, h1⟩ := hr
    exact ⟨b, cap, e.muGet hb, h1⟩
  | int k n => exact e.rep h hr
  | bool b => exact e.rep h hr
  | str l => exact e.rep h hr
  | nilp => exact e.rep h hr

theorem Evo.trans (h : Inv G X σ R) (e : Evo X X') (e' : Evo X' X'') : Evo X X'' where
  os := e'.os.trans e.os
  tape := e'.tape.trans e.tape
  output := e'.output.trans e.output
  size := Nat.le_trans e.size e'.size
  mu := by
    obtain ⟨n1, h1, k1⟩ := e.mu
    obtain ⟨n2, h2, k2⟩ := e'.mu
    refine ⟨n1 ++ n2, by rw [h2, h1, List.append_assoc], fun b hb => ?_⟩
    rcases List.mem_append.1 hb with hb | hb
    · exact k1 b hb
    · exact Nat.le_trans e.size (k2 b hb)
  rows := fun i r hr => by
    obtain ⟨r1, h1, t1, n1, s1, o1⟩ := e.rows i r hr
    obtain ⟨r2, h2, t2, n2, s2, o2⟩ := e'.rows i r1 h1
    refine ⟨r2, h2, t2.trans t1, Nat.le_trans n1 n2, fun hn => ?_, ?_⟩
    · have e1 : r1.n = r.n := by omega
      have e2 : r2.n = r1.n := by omega
      rw [s2 e2, s1 e1]
    · rcases o2 with ⟨b2, z2⟩ | ⟨b, hb, hge⟩
      · rcases o1 with ⟨b1, z1⟩ | ⟨b, hb, hge⟩
        · exact .inl ⟨b2.trans b1, fun hne => (z2 (by rw [b1]; exact hne)).trans (z1 hne)⟩
        · exact .inr ⟨b, b2.trans hb, hge⟩
      · exact .inr ⟨b, hb, Nat.le_trans e.size hge⟩
  news := fun i r' b hi hr hb => by
    rcases Nat.lt_or_ge i X'.rows.length with hlt | hge
    · have h1 : X'.rows[i]? = some X'.rows[i] := List.getElem?_eq_getElem hlt
      obtain ⟨r2, h2, _, _, _, o2⟩ := e'.rows i _ h1
      rw [hr] at h2
      obtain rfl : r' = r2 := Option.some.inj h2
      rcases o2 with ⟨b2, _⟩ | ⟨b', hb', hge⟩
      · exact e.news i _ b hi h1 (b2.symm.trans hb)
      · rw [hb] at hb'; obtain rfl : b = b' := Option.some.inj hb'; exact Nat.le_trans e.size hge
    · exact Nat.le_trans e.size (e'.news i r' b hge hr hb)
  Z := e'.Z.trans e.Z
  mem := fun b hb hmu hrow => by
    rw [← e.mem b hb hmu hrow]
    refine e'.mem b (Nat.lt_of_lt_of_le hb e.size) ?_ ?_
    · obtain ⟨news, hm, hn⟩ := e.mu
      rw [hm, List.mem_append]
      rintro (h' | h')
      · exact hmu h'
      · have := hn b h'; omega
    · intro i r hi hrb
      rcases Nat.lt_or_ge i X.rows.length with hlt | hge
      · obtain ⟨r1, h1, _, _, _, o1⟩ := e.rows i X.rows[i] (List.getElem?_eq_getElem hlt)
        rw [hi] at h1
        obtain rfl : r = r1 := Option.some.inj h1
        rcases o1 with ⟨b1, _⟩ | ⟨b', hb', hge⟩
        · exact hrow i _ (List.getElem?_eq_getElem hlt) (b1.symm.trans hrb)
        · rw [hrb] at hb'; obtain rfl : b = b' := Option.some.inj hb'; omega
      · have := e.news i r b hge hi hrb; omega
  memrow := fun i r b hr hb => by
    obtain ⟨cs, cs1, h0, h1, hs, hc⟩ := e.memrow i r b hr hb
    have hlt := heap_lt h0
    obtain ⟨r1, hr1, hT, hn, _, o1⟩ := e.rows i r hr
    by_cases hb1 : r1.blk = some b
    · obtain ⟨cs1', cs2, k0, k1, ks, kc⟩ := e'.memrow i r1 b hr1 hb1
      rw [hT] at k0 k1
      rw [h1] at k0
      injection k0 with k0; injection k0 with k0
      subst k0
      refine ⟨cs, cs2, h0, k1, ks.trans hs, fun o ho => ?_⟩
      rw [kc o ?_, hc o ho]
      rcases o1 with ⟨_, hz⟩ | ⟨b', hb', hge⟩
      · rw [hz (by rw [hb]; simp)]
        exact Nat.lt_of_lt_of_le ho (Nat.mul_le_mul_right _ hn)
      · rw [hb1] at hb'; obtain rfl : b = b' := Option.some.inj hb'; omega
    · refine ⟨cs, cs1, h0, ?_, hs, hc⟩
      rw [← h1]
      refine e'.mem b (Nat.lt_of_lt_of_le hlt e.size) ?_ ?_
      · obtain ⟨news, hm, hnw⟩ := e.mu
        rw [hm, List.mem_append]
        rintro (h' | h')
        · exact (h.row i r b hr hb).1 h'
        · have := hnw b h'; omega
      · intro j q hj hqb
        rcases Nat.lt_or_ge j X.rows.length with hjl | hge
        · obtain ⟨q1, hq1, _, _, _, p1⟩ := e.rows j X.rows[j] (List.getElem?_eq_getElem hjl)
          rw [hj] at hq1
          obtain rfl : q = q1 := Option.some.inj hq1
          rcases p1 with ⟨b2, _⟩ | ⟨b', hb', hge⟩
          · have := h.inj i j r X.rows[j] b hr (List.getElem?_eq_getElem hjl) hb (b2.symm.trans hqb)
            subst this
            rw [hr1] at hj
            obtain rfl : r1 = q := Option.some.inj hj
            exact hb1 hqb
          · rw [hqb] at hb'; obtain rfl : b = b' := Option.some.inj hb'; omega
        · have := e.news j q b hge hj hqb; omega
end
end Go.Abs
