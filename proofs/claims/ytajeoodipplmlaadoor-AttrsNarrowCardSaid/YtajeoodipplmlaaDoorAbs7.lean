/-
  'pv_sound': slices, struct and array literals, built-in functions, and all operations that only reckon together.
-/
import Derived.Test.YtajeoodipplmlaaDoorAbs6
set_option linter.all false
namespace Go.Abs
open Go Go.RowKit

section
variable {P : Program} {G : Nat → Option (List LV)} {H : Nat → Bool} {X : Ctx} {σ : List Blk} {R : RowsA} {n : Nat} {env : Env} {a : Act}

/-- A part of a slice's elements. -/
theorem rep_cut {Rd : Nat → Nat → Value → Prop} {sz lo hi cap b o : Nat} {e : List (List LV)} {ad : Option Addr} {vf : Nat → Nat → Value} (h1 : e.length ≤ cap) (h2 : cap ≤ maxLen) (h3 : ∀ c ∈ e, c.length = sz)
    (h4 : e = [] ∨ ad = some ⟨b, o, none⟩) (h5 : ∀ i j, i < e.length → j < sz → Rd b (o + (i * sz + j)) (vf i j)) (h6 : ∀ i j c x, e[i]? = some c → c[j]? = some x → Rep Rd x (vf i j))
    (hlo : lo ≤ hi) (hhi : hi ≤ e.length) :
    Rep Rd (.slice .shared sz ((e.drop lo).take (hi - lo))) (.slice (if cap = lo then ad else ad.map (·.add (lo * sz))) (hi - lo) (cap - lo)) := by
  have hlen : ((e.drop lo).take (hi - lo)).length = hi - lo := by simp; omega
  have := Rep.slice (Rd := Rd) ((e.drop lo).take (hi - lo)) (if cap = lo then ad else ad.map (·.add (lo * sz))) (cap - lo) b (o + lo * sz) sz (fun i j => vf (lo + i) j)
    (by rw [hlen]; omega) (by omega) (fun c hc => h3 c (List.mem_of_mem_drop (List.mem_of_mem_take hc)))
    (by
      rcases h4 with rfl | rfl
      · left; simp
      · by_cases hc : cap = lo
        · left
          apply List.eq_nil_of_length_eq_zero
          rw [hlen]; omega
        · right; rw [if_neg hc]; simp [add_lit])
    (fun i j hi' hj => by
      rw [hlen] at hi'
      have := h5 (lo + i) j (by omega) hj
      rw [show o + lo * sz + (i * sz + j) = o + ((lo + i) * sz + j) by rw [Nat.add_mul]; omega]
      exact this)
    (fun i j c x hc hx => by
      have hi' : i < hi - lo := by rw [← hlen]; exact (List.getElem?_eq_some_iff.1 hc).1
      rw [List.getElem?_take, if_pos hi', List.getElem?_drop] at hc
      exact h6 _ j c x hc hx)
  rw [hlen] at this
  exact this

theorem run_bound (w : World) (k : IntKind) (m : Int) (y : Nat) (code : BoundsCode) (h0 : 0 ≤ m) (h1 : m ≤ y) : (Instr.sliceBound (.int k m) y code).run P w = .ok m.toNat w := by
  simp [Instr.sliceBound, asIntOf, h0, h1]

theorem sliceV_sound {t : TypeId} {S S' : Prop} {lo hi : Option AV} {lr hr : Option Value} {x v : AV} {r : Value} (h : sliceV P t S lo hi x = some (S', v)) (hS : S') (hx : RepV X x r)
    (hlo : ∀ y, lo = some y → ∃ q, lr = some q ∧ RepV X y q) (hlo' : lo = none → lr = none) (hhi : ∀ y, hi = some y → ∃ q, hr = some q ∧ RepV X y q) (hhi' : hi = none → hr = none) :
    S ∧ ∃ u, RepV X v u ∧ ∀ w, (Instr.sliceAt t r lr hr none).run P w = .ok u w := by
  unfold sliceV at h
  split at h
  · rename_i own sz e
    obtain ⟨ad, cap, b, o, vf, rfl, h1, h2, h3, h4, h5, h6⟩ := slice_form (rep_slice hx)
    split at h
    · rename_i et k1 m1 k2 m2 het
      obtain ⟨q1, rfl, hq1⟩ := hlo _ rfl
      obtain ⟨q2, rfl, hq2⟩ := hhi _ rfl
      rw [repL_int hq1, repL_int hq2]
      split at h
      · rename_i hsz
        simp only [Option.some.injEq, Prod.mk.injEq] at h
        obtain ⟨e1, rfl⟩ := h
        subst e1
        obtain ⟨hS0, g0, g1, g2⟩ := hS
        obtain ⟨ii, hi, hsi⟩ := info_of_sz (P := P) (t := et) (by omega)
        have hcut := rep_cut (lo := m1.toNat) (hi := m2.toNat) h1 h2 h3 h4 h5 h6 (by omega) (by omega)
        refine ⟨hS0, _, hcut, fun w => ?_⟩
        have b2 := run_bound (P := P) w k2 m2 cap .sliceAcap (by omega) (by omega)
        have b1 := run_bound (P := P) w k1 m1 m2.toNat .sliceB (by omega) (by omega)
        simp [Instr.sliceAt, Instr.slice, run_underlying (elemT_spec het), Instr.sliceBounds, b1, b2, run_sizeT hi, hsi, hsz.1]
      · cases h
    · rename_i et k2 m2 het
      obtain rfl := hlo' rfl
      obtain ⟨q2, rfl, hq2⟩ := hhi _ rfl
      rw [repL_int hq2]
      split at h
      · rename_i hsz
        simp only [Option.some.injEq, Prod.mk.injEq] at h
        obtain ⟨e1, rfl⟩ := h
        subst e1
        obtain ⟨hS0, g1, g2⟩ := hS
        obtain ⟨ii, hi, hsi⟩ := info_of_sz (P := P) (t := et) (by omega)
        have hcut := rep_cut (lo := 0) (hi := m2.toNat) h1 h2 h3 h4 h5 h6 (by omega) (by omega)
        simp only [List.drop_zero, Nat.sub_zero] at hcut
        refine ⟨hS0, _, hcut, fun w => ?_⟩
        have b2 := run_bound (P := P) w k2 m2 cap .sliceAcap (by omega) (by omega)
        simp [Instr.sliceAt, Instr.slice, run_underlying (elemT_spec het), Instr.sliceBounds, b2, run_sizeT hi, hsi, hsz.1]
      · cases h
    · rename_i et k1 m1 het
      obtain ⟨q1, rfl, hq1⟩ := hlo _ rfl
      obtain rfl := hhi' rfl
      rw [repL_int hq1]
      split at h
      · rename_i hsz
        simp only [Option.some.injEq, Prod.mk.injEq] at h
        obtain ⟨e1, rfl⟩ := h
        subst e1
        obtain ⟨hS0, g0, g1⟩ := hS
        obtain ⟨ii, hi, hsi⟩ := info_of_sz (P := P) (t := et) (by omega)
        have hcut := rep_cut (lo := m1.toNat) (hi := e.length) h1 h2 h3 h4 h5 h6 (by omega) (by omega)
        rw [List.take_of_length_le (by simp)] at hcut
        refine ⟨hS0, _, hcut, fun w => ?_⟩
        have b1 := run_bound (P := P) w k1 m1 e.length .sliceB (by omega) (by omega)
        simp [Instr.sliceAt, Instr.slice, run_underlying (elemT_spec het), Instr.sliceBounds, b1, run_sizeT hi, hsi, hsz.1]
      · cases h
    · cases h
  · cases h

inductive PartsR (X : Ctx) : List (Nat × AV) → List (Nat × Value) → Prop
  | nil : PartsR X [] []
  | cons {p : Nat × AV} {q : Nat × Value} {ps : List (Nat × AV)} {qs : List (Nat × Value)} : (p.1 = q.1 ∧ RepV X p.2 q.2) → PartsR X ps qs → PartsR X (p :: ps) (q :: qs)

theorem opParts_sound (hI : Inv G X σ R) (he : EnvOk X n env a) : ∀ (l : List (Nat × Operand)) (vs : List (Nat × AV)), opParts G env l = some vs →
    PartsR X vs (l.map fun x => (x.1, a.eval x.2))
  | [], vs, h => by simp [opParts] at h; subst h; exact .nil
  | (i, x) :: l, vs, h => by
    simp only [opParts] at h
    split at h
    · rename_i v vs' h1 h2
      obtain rfl := Option.some.inj h
      exact .cons ⟨rfl, opA_sound hI he h1⟩ (opParts_sound hI he l vs' h2)
    · cases h

theorem opAll_sound (hI : Inv G X σ R) (he : EnvOk X n env a) : ∀ (l : List Operand) (vs : List AV), opAll G env l = some vs →
    vs.length = l.length ∧ ∀ (j : Nat) (v : AV), vs[j]? = some v → ∃ u, (l.map a.eval)[j]? = some u ∧ RepV X v u
  | [], vs, h => by simp [opAll] at h; subst h; simp
  | x :: l, vs, h => by
    simp only [opAll] at h
    split at h
    · rename_i v vs' h1 h2
      obtain rfl := Option.some.inj h
      obtain ⟨k1, k2⟩ := opAll_sound hI he l vs' h2
      refine ⟨by simp [k1], fun j v' hj => ?_⟩
      cases j with
      | zero => simp at hj; subst hj; exact ⟨_, rfl, opA_sound hI he h1⟩
      | succ j => simpa using k2 j v' (by simpa using hj)
    · cases h

/-- Cells that tell a list. -/
def CellsR (X : Ctx) (cells : List LV) (rs : Array Value) : Prop := rs.size = cells.length ∧ ∀ (j : Nat) (x : LV), cells[j]? = some x → ∃ u, rs[j]? = some u ∧ RepL X x u

theorem cellsL_sound {v : AV} {r : Value} {vs : List LV} (h : v.cellsL = some vs) (hr : RepV X v r) : CellsR X vs r.cells := by
  unfold AV.cellsL at h
  split at h
  · rename_i x
    obtain rfl := Option.some.inj h
    have hc : r.cells = #[r] := by
      have hr' : RepL X x r := hr
      cases x with
      | ptr i o => obtain ⟨b, _, rfl⟩ := hr'; rfl
      | eptr c o => obtain ⟨b, o', rfl, _⟩ := hr'; rfl
      | fn f caps => obtain ⟨rs, rfl, _⟩ := hr'; rfl
      | mfn f i o => obtain ⟨b, _, rfl⟩ := hr'; rfl
      | vsl i o s l => obtain ⟨b, cap, _, rfl, _⟩ := hr'; rfl
      | slice own sz e => obtain ⟨ad, cap, b, o, vf, rfl, _⟩ := slice_form (rep_slice hr'); rfl
      | int k n => rw [repL_int hr']; rfl
      | bool b => rw [repL_bool hr']; rfl
      | str l => obtain ⟨s, rfl, _⟩ := repL_str hr'; rfl
      | nilp => rw [repL_nilp hr']; rfl
    rw [hc]
    refine ⟨rfl, fun j y hj => ?_⟩
    cases j with
    | zero => simp at hj; subst hj; exact ⟨r, rfl, hr⟩
    | succ j => simp at hj
  · rename_i cs
    obtain rfl := Option.some.inj h
    obtain ⟨rs, rfl, h1, h2⟩ := hr
    exact ⟨h1, h2⟩
  · cases h

theorem foldl_set (vs : List Value) : ∀ (off k : Nat) (cs : Array Value), off + k + vs.length ≤ cs.size →
    ((vs.zipIdx k).foldl (fun (cs : Array Value) (p : Value × Nat) => cs.setIfInBounds (off + p.2) p.1) cs).toList = cs.toList.take (off + k) ++ vs ++ cs.toList.drop (off + k + vs.length) := by
  induction vs with
  | nil => intro off k cs _; simp
  | cons v vs ih =>
    intro off k cs h
    simp only [List.length_cons] at h
    rw [List.zipIdx_cons, List.foldl_cons]
    have := ih off (k + 1) (cs.setIfInBounds (off + k) v) (by simp; omega)
    rw [this]
    apply List.ext_getElem?
    intro i
    simp only [Array.toList_setIfInBounds, List.append_assoc, List.getElem?_append, List.length_take, List.length_set, Array.length_toList, List.getElem?_take, List.getElem?_set, List.getElem?_drop, List.length_cons]
    rw [show min (off + (k + 1)) cs.size = off + k + 1 by omega, show min (off + k) cs.size = off + k by omega]
    by_cases h1 : i < off + k
    · simp [h1, show i < off + k + 1 by omega, show i < off + (k + 1) by omega, show off + k ≠ i by omega]
    · by_cases h2 : i = off + k
      · subst h2
        simp [show off + k < off + (k + 1) by omega]
        omega
      · obtain ⟨d, rfl⟩ : ∃ d, i = off + k + 1 + d := ⟨i - (off + k + 1), by omega⟩
        simp only [show ¬ off + k + 1 + d < off + k + 1 by omega, if_false, h1, show off + k + 1 + d - (off + k + 1) = d by omega, show off + k + 1 + d - (off + k) = d + 1 by omega, List.getElem?_cons_succ]
        by_cases h3 : d < vs.length
        · simp [h3]
        · simp only [h3, if_false, List.length_cons, Nat.add_lt_add_iff_right, show (d + 1 < vs.length + 1) = (d < vs.length) by simp, show d + 1 - (vs.length + 1) = d - vs.length by omega]
          rw [if_neg (by omega)]
          congr 1
          omega

/-- Some cells laid into others. -/
theorem splice_sound {cells vs : List LV} {cs : Array Value} {off : Nat} {us : Array Value} (hc : CellsR X cells cs) (hv : CellsR X vs us) (hle : off + vs.length ≤ cells.length) (cs' : Array Value)
    (h' : cs'.toList = cs.toList.take off ++ us.toList ++ cs.toList.drop (off + us.toList.length)) : CellsR X (spliceL cells off vs) cs' := by
  have hul : us.toList.length = vs.length := by simp [hv.1]
  have hsz : cs'.size = cs.size := by
    rw [← Array.length_toList, h']
    simp [hv.1, hc.1]; omega
  refine ⟨by rw [hsz, hc.1]; simp [spliceL]; omega, fun j x hj => ?_⟩
  rw [← Array.getElem?_toList, h']
  have hcl : cs.toList.length = cells.length := by simp [hc.1]
  simp only [spliceL, List.append_assoc, List.getElem?_append, List.length_take, List.getElem?_take, List.getElem?_drop] at hj ⊢
  rw [hcl, hul]
  rw [show min off cells.length = off by omega] at hj ⊢
  by_cases h1 : j < off
  · simp only [h1, if_true] at hj ⊢
    obtain ⟨u, k1, k2⟩ := hc.2 j x hj
    exact ⟨u, by rw [Array.getElem?_toList]; exact k1, k2⟩
  · simp only [h1, if_false] at hj ⊢
    by_cases h2 : j - off < vs.length
    · simp only [h2, if_true] at hj ⊢
      obtain ⟨u, k1, k2⟩ := hv.2 _ x hj
      exact ⟨u, by rw [Array.getElem?_toList]; exact k1, k2⟩
    · simp only [h2, if_false] at hj ⊢
      obtain ⟨u, k1, k2⟩ := hc.2 _ x hj
      exact ⟨u, by rw [Array.getElem?_toList]; exact k1, k2⟩

theorem cells_fold {cs : Array Value} {off : Nat} {us : Array Value} (h : off + us.size ≤ cs.size) :
    (us.zipIdx.foldl (fun (cs : Array Value) (p : Value × Nat) => cs.setIfInBounds (off + p.2) p.1) cs).toList = cs.toList.take off ++ us.toList ++ cs.toList.drop (off + us.toList.length) := by
  have := foldl_set us.toList off 0 cs (by simp; omega)
  rw [Nat.add_zero] at this
  rw [← this, ← Array.foldl_toList, Array.toList_zipIdx]

theorem fillL_sound {t : TypeId} {fs : Array Field} (hu : P.underlying t = some (.struct fs)) (places : List (Nat × Nat))
    (hp : fs.toList.mapM (fun f => (P.info? f.type).map fun i => (f.offset, i.size)) = some places) :
    ∀ (vs : List (Nat × AV)) (ps : List (Nat × Value)) (cells out : List LV) (cs : Array Value), PartsR X vs ps →
      CellsR X cells cs → fillL P t cells vs = some out → ∃ rs, Instr.fill (fun x => places[x]?) cs ps = some rs ∧ CellsR X out rs
  | [], _, cells, out, cs, .nil, hc, h => by
    simp only [fillL, Option.some.injEq] at h
    subst h
    exact ⟨cs, rfl, hc⟩
  | (i, v) :: vs, (i', q) :: ps, cells, out, cs, .cons hh ht, hc, h => by
    obtain ⟨rfl, hv⟩ := hh
    simp only at hv
    simp only [fillL] at h
    split at h
    · rename_i o s ft us hf hcl
      split at h
      · rename_i hcnd
        obtain ⟨fs', fd, hu', hfd, rfl, hs, _⟩ := fieldT_spec hf
        rw [hu] at hu'
        obtain rfl : fs = fs' := by injection hu' with hu'; injection hu'
        have hq := cellsL_sound hcl hv
        have hpl : places[i]? = some (fd.offset, s) := by
          have hm : ∀ (l : List Field) (pl : List (Nat × Nat)), l.mapM (fun f => (P.info? f.type).map fun i => (f.offset, i.size)) = some pl → ∀ (i : Nat) (fd : Field), l[i]? = some fd → pl[i]? = some (fd.offset, szT P fd.type) := by
            intro l
            induction l with
            | nil => intro pl _ i fd hi; simp at hi
            | cons f l ih =>
              intro pl hpl i fd hi
              simp only [List.mapM_cons, Option.bind_eq_bind, Option.pure_def] at hpl
              cases hii : P.info? f.type with
              | none => simp [hii] at hpl
              | some ii =>
                cases hr : l.mapM (fun f => (P.info? f.type).map fun i => (f.offset, i.size)) with
                | none => simp [hii, hr] at hpl
                | some rest =>
                  simp [hii, hr] at hpl
                  subst hpl
                  cases i with
                  | zero => simp at hi; subst hi; simp [szT, hii]
                  | succ i => simpa using ih rest hr i fd (by simpa using hi)
          rw [← hs]
          exact hm fs.toList places hp i fd (by simpa using hfd)
        simp only [Instr.fill, hpl]
        have h1 : ¬ (q.cells.size ≠ s ∨ cs.size < fd.offset + q.cells.size) := by
          rw [hq.1, hc.1]; omega
        rw [if_neg (by simpa [Bool.or_eq_true] using h1)]
        exact fillL_sound hu places hp vs ps _ out _ ht (splice_sound hc hq (by omega) _ (cells_fold (by rw [hq.1, hc.1]; omega))) h
      · cases h
    · cases h

theorem fillArr_sound {sz : Nat} : ∀ (vs : List (Nat × AV)) (ps : List (Nat × Value)) (cells out : List LV) (cs : Array Value), PartsR X vs ps →
      CellsR X cells cs → fillArr sz cells vs = some out → ∃ rs, Instr.fill (fun i => some (i * sz, sz)) cs ps = some rs ∧ CellsR X out rs
  | [], _, cells, out, cs, .nil, hc, h => by
    simp only [fillArr, Option.some.injEq] at h
    subst h
    exact ⟨cs, rfl, hc⟩
  | (i, v) :: vs, (i', q) :: ps, cells, out, cs, .cons hh ht, hc, h => by
    obtain ⟨rfl, hv⟩ := hh
    simp only at hv
    simp only [fillArr] at h
    split at h
    · rename_i us hcl
      split at h
      · rename_i hcnd
        have hq := cellsL_sound hcl hv
        simp only [Instr.fill]
        have h1 : ¬ (q.cells.size ≠ sz ∨ cs.size < i * sz + q.cells.size) := by
          rw [hq.1, hc.1]; omega
        rw [if_neg (by simpa [Bool.or_eq_true] using h1)]
        exact fillArr_sound vs ps _ out _ ht (splice_sound hc hq (by omega) _ (cells_fold (by rw [hq.1, hc.1]; omega))) h
      · cases h
    · cases h

theorem zeroL_sound {e : Nat} {v : Value} {x : LV} (h : zeroL e v = some x) : RepL X x v := by
  unfold zeroL at h
  split at h
  · obtain rfl := Option.some.inj h; exact ⟨rfl, none, rfl⟩
  · exact constL_sound h
theorem zeroLs_sound : ∀ (vs : List Value) (es : List Nat) (xs : List LV), zeroLs es vs = some xs → xs.length = vs.length ∧ ∀ (j : Nat) (x : LV), xs[j]? = some x → ∃ u, vs[j]? = some u ∧ RepL X x u
  | [], es, xs, h => by simp [zeroLs] at h; subst h; simp
  | v :: vs, es, xs, h => by
    simp only [zeroLs] at h
    split at h
    · rename_i x ys h1 h2
      obtain rfl := Option.some.inj h
      obtain ⟨k1, k2⟩ := zeroLs_sound vs es.tail ys h2
      refine ⟨by simp [k1], fun j y hj => ?_⟩
      cases j with
      | zero => simp at hj; subst hj; exact ⟨v, rfl, zeroL_sound h1⟩
      | succ j => simpa using k2 j y (by simpa using hj)
    · cases h
theorem zeroA_sound {t : TypeId} {cs : List LV} (h : zeroA P t = some cs) : ∃ i z, P.info? t = some i ∧ i.zero = some z ∧ CellsR X cs z.cells := by
  unfold zeroA at h
  cases hi : P.info? t with
  | none => simp [hi] at h
  | some i =>
    cases hz : i.zero with
    | none => simp [hi, hz] at h
    | some z =>
      simp only [hi, hz, Option.bind_some] at h
      obtain ⟨k1, k2⟩ := zeroLs_sound (X := X) _ _ _ h
      refine ⟨i, z, rfl, hz, by simp at k1; omega, fun j x hj => ?_⟩
      simpa using k2 j x hj

theorem buildV_sound {t : TypeId} {vs : List (Nat × AV)} {ps : List (Nat × Value)} {v : AV} (hh : PartsR X vs ps)
    (h : buildV P t vs = some v) : ∃ rs, P.built t ps = some rs ∧ RepV X v (.agg rs) := by
  unfold buildV at h
  split at h
  rotate_left
  · cases h
  rename_i hok
  have hpl : ∀ fs, P.underlying t = some (.struct fs) → ∃ places, fs.toList.mapM (fun f => (P.info? f.type).map fun i => (f.offset, i.size)) = some places := fun fs hu => by
    unfold placesOk at hok
    rw [hu] at hok
    exact Option.isSome_iff_exists.1 hok
  have hel : ∀ k e, P.underlying t = some (.array k e) → ∃ i, P.info? e = some i := fun k e hu => by
    unfold placesOk at hok
    rw [hu] at hok
    exact Option.isSome_iff_exists.1 hok
  split at h
  · cases h
  · rename_i z hz
    obtain ⟨i, zv, hi, hzv, hc⟩ := zeroA_sound (X := X) hz
    split at h
    · rename_i len e ha
      have hu := arrT_spec ha
      cases hf : fillArr (szT P e) z vs with
      | none => simp [hf] at h
      | some out =>
        simp [hf] at h; subst h
        obtain ⟨ie, hie⟩ := hel _ _ hu
        obtain ⟨rs, h1, h2⟩ := fillArr_sound vs ps z out zv.cells hh hc hf
        have hs : ie.size = szT P e := by simp [szT, hie]
        refine ⟨rs, ?_, ⟨rs, rfl, h2.1, h2.2⟩⟩
        simp only [Program.built, hi, hu, hzv, hie, hs]; exact h1
    · split at h
      · rename_i hagg
        cases hf : fillL P t z vs with
        | none => simp [hf] at h
        | some out =>
          simp [hf] at h; subst h
          unfold aggT at hagg
          rename_i harr
          cases hu : P.underlying t with
          | none => simp [hu, aggD] at hagg
          | some d =>
            cases d <;> simp [hu, aggD] at hagg
            case array k e => simp [arrT, hu, arrD] at harr
            case struct fs =>
              obtain ⟨places, hp⟩ := hpl fs hu
              obtain ⟨rs, h1, h2⟩ := fillL_sound hu places hp vs ps z out zv.cells hh hc hf
              refine ⟨rs, ?_, ⟨rs, rfl, h2.1, h2.2⟩⟩
              simp only [Program.built, hi, hu, hzv, hp]; simpa using h1
      · cases h
end
end Go.Abs
