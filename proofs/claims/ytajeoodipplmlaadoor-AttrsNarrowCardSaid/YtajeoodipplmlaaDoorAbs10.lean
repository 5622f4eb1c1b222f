/-
  'aop_sound': an operation, whatever it does.
-/
import Derived.Test.YtajeoodipplmlaaDoorAbs9
set_option linter.all false
namespace Go.Abs
open Go Go.RowKit

section
variable {P : Program} {G : Nat → Option (List LV)} {H Hl He : Nat → Bool} {X X' : Ctx} {σ : List Blk} {R : RowsA} {n : Nat} {env : Env} {a : Act}

theorem Evo.rep1 (h : Inv G X σ R) (e : Evo X X') {v : AV} {r : Value} (hr : Rep1 X v r) : Rep1 X' v r := by
  cases v with
  | l x => exact e.repL h hr
  | agg cells =>
    obtain ⟨rs, rfl, hl, hc⟩ := hr
    exact ⟨rs, rfl, hl, fun j x hx => let ⟨u, h1, h2⟩ := hc j x hx; ⟨u, h1, e.repL h h2⟩⟩
  | undef => exact hr
  | tup xs => exact hr.elim
  | ifb c v => exact hr.elim
theorem Evo.repV (h : Inv G X σ R) (e : Evo X X') {v : AV} {r : Value} (hr : RepV X v r) : RepV X' v r := by
  cases v with
  | tup xs =>
    obtain ⟨rs, rfl, hl, hc⟩ := hr
    exact ⟨rs, rfl, hl, fun j x hx => let ⟨u, h1, h2⟩ := hc j x hx; ⟨u, h1, e.rep1 h h2⟩⟩
  | ifb c v => exact ⟨fun hc => e.rep1 h (hr.1 hc), hr.2⟩
  | l x => exact e.rep1 (v := .l x) h hr
  | agg x => exact e.rep1 (v := .agg x) h hr
  | undef => exact hr

theorem EnvOk.put (hI : Inv G X σ R) (he : EnvOk X n env a) (e : Evo X X') {dst : Option Tmp} (hd : ∀ d, dst = some d → d < n) {v : AV} {r : Value} (hr : RepV X' v r) :
    EnvOk X' n (envPut dst v env) (a.put dst r) := by
  obtain ⟨h1, h2, h3⟩ := he
  cases dst with
  | none => exact ⟨h1, h2, fun t u ht => let ⟨q, k1, k2⟩ := h3 t u ht; ⟨q, k1, e.repV hI k2⟩⟩
  | some d =>
    refine ⟨h1, by simp [Act.put, h2], fun t u ht => ?_⟩
    simp only [envPut, envGet] at ht
    simp only [Act.put]
    split at ht
    · rename_i hdt
      subst hdt
      obtain rfl := Option.some.inj ht
      exact ⟨r, by rw [Array.getElem?_setIfInBounds_self_of_lt (by rw [h2]; exact hd d rfl)], hr⟩
    · rename_i hdt
      obtain ⟨q, k1, k2⟩ := h3 t u ht
      exact ⟨q, by rw [Array.getElem?_setIfInBounds_ne hdt]; exact k1, e.repV hI k2⟩

theorem sh_sound {x y : LV} {r : Value} (h : x.sh = some y) (hr : RepL X x r) : Rep X.Rd y r := by
  cases x <;> simp only [LV.sh, Option.some.injEq, reduceCtorEq] at h
  case int k n => subst h; exact hr
  case bool b => subst h; exact hr
  case str l => subst h; exact hr
  case nilp => subst h; exact hr
  case slice own sz e => subst h; exact rep_slice hr

theorem shAll_sound : ∀ (xs ys : List LV) (rs : Array Value), shAll xs = some ys → CellsR X xs rs → ys.length = xs.length ∧ ∀ (j : Nat) (y : LV), ys[j]? = some y → ∃ u, rs[j]? = some u ∧ Rep X.Rd y u
  | [], ys, rs, h, _ => by simp [shAll] at h; subst h; simp
  | x :: xs, ys, rs, h, hc => by
    simp only [shAll] at h
    split at h
    · rename_i y ys' h1 h2
      obtain rfl := Option.some.inj h
      have hc' : CellsR X xs (rs.extract 1 rs.size) := by
        refine ⟨by simp [hc.1], fun j z hj => ?_⟩
        obtain ⟨u, k1, k2⟩ := hc.2 (j + 1) z (by simpa using hj)
        have hlt := (Array.getElem?_eq_some_iff.1 k1).1
        exact ⟨u, by rw [Array.getElem?_extract, if_pos (by omega), Nat.add_comm]; exact k1, k2⟩
      obtain ⟨k1, k2⟩ := shAll_sound xs ys' _ h2 hc'
      refine ⟨by simp [k1], fun j z hj => ?_⟩
      cases j with
      | zero =>
        simp at hj; subst hj
        obtain ⟨u, q1, q2⟩ := hc.2 0 x rfl
        exact ⟨u, q1, sh_sound h1 q2⟩
      | succ j =>
        obtain ⟨u, q1, q2⟩ := k2 j z (by simpa using hj)
        rw [Array.getElem?_extract] at q1
        split at q1
        · exact ⟨u, by rw [Nat.add_comm]; exact q1, q2⟩
        · cases q1
    · cases h

/-- The cells of a slice literal. -/
theorem parts_fill {sz : Nat} : ∀ (vs : List (Nat × AV)) (ps : List (Nat × Value)) (k : Nat) (es : List (List LV)) (cs : Array Value), PartsR X vs ps → partsSh sz k vs = some es → (k + es.length) * sz ≤ cs.size →
    ∃ rs, Instr.fill (fun i => some (i * sz, sz)) cs ps = some rs ∧ rs.size = cs.size ∧ (∀ c ∈ es, c.length = sz) ∧ (∀ o, o < k * sz → rs[o]? = cs[o]?) ∧
      ∀ i j c x, es[i]? = some c → c[j]? = some x → ∃ u, rs[(k + i) * sz + j]? = some u ∧ Rep X.Rd x u
  | [], _, k, es, cs, .nil, h, _ => by
    simp only [partsSh, Option.some.injEq] at h
    subst h
    exact ⟨cs, rfl, rfl, by simp, fun _ _ => rfl, by simp⟩
  | (i, v) :: vs, (i', q) :: ps, k, es, cs, .cons hh ht, h, hle => by
    obtain ⟨rfl, hv⟩ := hh
    simp only at hv
    simp only [partsSh] at h
    split at h
    · rename_i us hcl
      split at h
      · rename_i ys r h1 h2
        split at h
        · rename_i hcnd
          obtain ⟨rfl, hus⟩ := hcnd
          obtain rfl := Option.some.inj h
          have hq := cellsL_sound hcl hv
          obtain ⟨s1, s2⟩ := shAll_sound us ys q.cells h1 hq
          simp only [List.length_cons] at hle
          have hle' : (i + 1) * sz ≤ cs.size := Nat.le_trans (Nat.mul_le_mul_right _ (by omega)) hle
          rw [Nat.add_mul, Nat.one_mul] at hle'
          have hg : ¬ (q.cells.size ≠ sz ∨ cs.size < i * sz + q.cells.size) := by rw [hq.1, hus]; omega
          have hfold := cells_fold (cs := cs) (off := i * sz) (us := q.cells) (by rw [hq.1, hus]; omega)
          generalize hcs' : q.cells.zipIdx.foldl (fun (cs : Array Value) (p : Value × Nat) => cs.setIfInBounds (i * sz + p.2) p.1) cs = cs' at hfold
          have hsz' : cs'.size = cs.size := by
            rw [← Array.length_toList, hfold]
            simp [hq.1, hus]; omega
          obtain ⟨rs, f1, f2, f3, f4, f5⟩ := parts_fill vs ps (i + 1) r cs' ht h2 (by rw [hsz']; rw [show i + 1 + r.length = i + (r.length + 1) by omega]; exact hle)
          refine ⟨rs, ?_, f2.trans hsz', ?_, ?_, ?_⟩
          · simp only [Instr.fill]
            rw [if_neg (by simpa [Bool.or_eq_true] using hg)]
            rw [hcs']; exact f1
          · intro c hc
            rcases List.mem_cons.1 hc with rfl | hc
            · rw [s1, hus]
            · exact f3 c hc
          · intro o ho
            rw [f4 o (by rw [Nat.add_mul]; omega), ← Array.getElem?_toList, hfold, List.append_assoc, List.getElem?_append_left (by simp; omega), List.getElem?_take, if_pos ho, Array.getElem?_toList]
          · intro i' j c x hc hx
            cases i' with
            | zero =>
              simp at hc; subst hc
              obtain ⟨u, u1, u2⟩ := s2 j x hx
              have hj : j < sz := by rw [← hus, ← s1]; exact (List.getElem?_eq_some_iff.1 hx).1
              refine ⟨u, ?_, u2⟩
              rw [Nat.add_zero, f4 _ (by rw [Nat.add_mul]; omega), ← Array.getElem?_toList, hfold, List.append_assoc, List.getElem?_append_right (by simp; omega)]
              rw [show i * sz + j - (List.take (i * sz) cs.toList).length = j by simp; omega, List.getElem?_append_left (by simp [hq.1, hus]; exact hj), Array.getElem?_toList]
              exact u1
            | succ i' =>
              obtain ⟨u, u1, u2⟩ := f5 i' j c x (by simpa using hc) hx
              exact ⟨u, by rw [show i + (i' + 1) = i + 1 + i' by omega]; exact u1, u2⟩
        · cases h
      · cases h
    · cases h

/-- The cells of a slice literal whose parts may lead to variables. -/
theorem parts_fillV {sz : Nat} : ∀ (vs : List (Nat × AV)) (ps : List (Nat × Value)) (k : Nat) (es : List LV) (cs : Array Value), PartsR X vs ps → partsV sz k vs = some es → (k + vs.length) * sz ≤ cs.size →
    ∃ rs, Instr.fill (fun i => some (i * sz, sz)) cs ps = some rs ∧ rs.size = cs.size ∧ es.length = vs.length * sz ∧ (∀ o, o < k * sz → rs[o]? = cs[o]?) ∧
      ∀ j x, es[j]? = some x → ∃ u, rs[k * sz + j]? = some u ∧ RepL X x u
  | [], _, k, es, cs, .nil, h, _ => by
    simp only [partsV, Option.some.injEq] at h
    subst h
    exact ⟨cs, rfl, rfl, by simp, fun _ _ => rfl, by simp⟩
  | (i, v) :: vs, (i', q) :: ps, k, es, cs, .cons hh ht, h, hle => by
    obtain ⟨rfl, hv⟩ := hh
    simp only at hv
    simp only [partsV] at h
    split at h
    · rename_i us hcl
      split at h
      · rename_i r h2
        split at h
        · rename_i hcnd
          obtain ⟨rfl, hus⟩ := hcnd
          obtain rfl := Option.some.inj h
          have hq := cellsL_sound hcl hv
          simp only [List.length_cons] at hle
          have hle' : (i + 1) * sz ≤ cs.size := Nat.le_trans (Nat.mul_le_mul_right _ (by omega)) hle
          rw [Nat.add_mul, Nat.one_mul] at hle'
          have hg : ¬ (q.cells.size ≠ sz ∨ cs.size < i * sz + q.cells.size) := by rw [hq.1, hus]; omega
          have hfold := cells_fold (cs := cs) (off := i * sz) (us := q.cells) (by rw [hq.1, hus]; omega)
          generalize hcs' : q.cells.zipIdx.foldl (fun (cs : Array Value) (p : Value × Nat) => cs.setIfInBounds (i * sz + p.2) p.1) cs = cs' at hfold
          have hsz' : cs'.size = cs.size := by
            rw [← Array.length_toList, hfold]
            simp [hq.1, hus]; omega
          obtain ⟨rs, f1, f2, f3, f4, f5⟩ := parts_fillV vs ps (i + 1) r cs' ht h2 (by rw [hsz']; rw [show i + 1 + vs.length = i + (vs.length + 1) by omega]; exact hle)
          refine ⟨rs, ?_, f2.trans hsz', ?_, ?_, ?_⟩
          · simp only [Instr.fill]
            rw [if_neg (by simpa [Bool.or_eq_true] using hg)]
            rw [hcs']; exact f1
          · rw [List.length_append, f3, hus, List.length_cons, Nat.add_mul]; omega
          · intro o ho
            rw [f4 o (by rw [Nat.add_mul]; omega), ← Array.getElem?_toList, hfold, List.append_assoc, List.getElem?_append_left (by simp; omega), List.getElem?_take, if_pos ho, Array.getElem?_toList]
          · intro j x hx
            rcases Nat.lt_or_ge j us.length with hj | hj
            · rw [List.getElem?_append_left hj] at hx
              obtain ⟨u, u1, u2⟩ := hq.2 j x hx
              refine ⟨u, ?_, u2⟩
              rw [f4 _ (by rw [Nat.add_mul]; omega), ← Array.getElem?_toList, hfold, List.append_assoc, List.getElem?_append_right (by simp; omega)]
              rw [show i * sz + j - (List.take (i * sz) cs.toList).length = j by simp; omega, List.getElem?_append_left (by simp [hq.1]; exact hj), Array.getElem?_toList]
              exact u1
            · rw [List.getElem?_append_right hj] at hx
              obtain ⟨u, u1, u2⟩ := f5 _ _ hx
              exact ⟨u, by rw [← u1, Nat.add_mul, hus]; congr 1; omega, u2⟩
        · cases h
      · cases h
    · cases h

theorem run_callFunc {f : FuncId} {args : Array Value} {w : World} (h : callable P f = true) : (callFunc f args).run P w = .ok (.enter f args) w := by
  unfold callable at h
  cases hf : P.funcs[f]? with
  | none => simp [hf] at h
  | some fn =>
    simp only [hf, Bool.and_eq_true, bne_iff_ne, ne_eq] at h
    have h2 : fn.body ≠ none := by intro hb; simp [hb] at h
    simp [callFunc, hf, h.1, h2]

theorem HeldEq.of_mu (h : ∀ b ∈ X.mu, X'.w.heap[b]? = X.w.heap[b]?) : HeldEq H X X' := fun _ b hb _ => h b (List.mem_iff_getElem?.2 ⟨_, hb⟩)
theorem HeldEq.refl' : HeldEq H X X := fun _ _ _ _ => rfl

/-- What an operation comes to. -/
def OpOk (P : Program) (G : Nat → Option (List LV)) (He : Nat → Bool) (X : Ctx) (a : Act) (K : AV → List Blk → RowsA → Prop) (o : Oper) : Prop :=
  ∀ (Kc : Act → World → Prop) (Q : Exit → Act → World → Prop),
    (∀ v r σ' R' X', K v σ' R' → Evo X X' → HeldEq He X X' → Inv G X' σ' R' → RepV X' v r → Kc (a.put o.dst r) X'.w) → o.wp P a X.w Kc Q

theorem pv_ok (hI : Inv G X σ R) (he : EnvOk X n env a) {o : Oper} {S : Prop} {v : AV} {K : AV → List Blk → RowsA → Prop} (h : pv P G Hl env σ o.op = some (S, v)) (hS : S) (hK : K v σ R) : OpOk P G He X a K o := by
  intro Kc Q hc
  obtain ⟨r, h1, h2⟩ := pv_sound hI he h hS
  unfold Oper.wp
  rw [h2 X.w (.inr Agree.here)]
  exact hc v r σ R X hK (Evo.refl hI) HeldEq.refl' hI h1

theorem run_append_ok {t ty : TypeId} {s x : AV} {sr xr : Value} {K : AV → List Blk → RowsA → Prop} (hI : Inv G X σ R) (h : appendA P t σ R K s x) (hs : RepV X s sr) (hx : RepV X x xr) :
    ∃ v r w' X' R', K v σ R' ∧ (Builtin.append_ #[t, t] ty #[sr, xr]).run P X.w = .ok r w' ∧ X'.w = w' ∧ Evo X X' ∧ HeldEq He X X' ∧ Inv G X' σ R' ∧ RepV X' v r := by
  unfold appendA at h
  split at h
  · rename_i i sz e own sz' e'
    split at h
    · rename_i et het
      obtain ⟨hzo, hR, hsz, hsz', hpos, hb, hl, hK⟩ := h
      obtain ⟨r, w', X', h1, h2, h3, h4, h5, h6, h7⟩ := append_row (P := P) (ty := ty) hI het hzo hR hsz hsz' hpos hb hl hs hx
      exact ⟨_, r, w', X', _, hK, h1, h2, h4, HeldEq.of_mu (fun b hb => by rw [h2]; exact h5 b hb), h6, h7⟩
    · cases h
  · rename_i z0 e own sz' e'
    split at h
    · rename_i et het
      obtain ⟨hzo, rfl, hsz', hpos, hb, hl, hK⟩ := h
      obtain ⟨hE0, hI0⟩ := hI.emptyRow et (szT P et)
      obtain ⟨_, ad, had⟩ := hs
      have hs' : RepL { X with rows := X.rows ++ [⟨none, szT P et, et, 0⟩] } (.slice (.row R.length) (szT P et) []) sr := by
        rw [had]
        refine ⟨.slice [] ad 0 0 0 (szT P et) (fun _ _ => Go.undef) (Nat.le_refl _) (by simp [maxLen]) (by simp) (.inl rfl) (by simp) (by simp), ⟨none, szT P et, et, 0⟩, ?_, Nat.le_refl _, fun _ => .inl ⟨rfl, ad, rfl⟩⟩
        have : X.rows.length = R.length := by rw [← hI.rowsR]; simp
        simp only
        rw [← this]; simp
      obtain ⟨r, w', X', h1, h2, h3, h4, h5, h6, h7⟩ := append_row (P := P) (ty := ty) (i := R.length) (e := []) hI0 het hzo (by simp) rfl hsz' hpos (by simpa using hb) (by simpa using hl) hs' (hE0.repL hI hx)
      refine ⟨_, r, w', X', _, hK, h1, h2, hE0.trans hI h4, HeldEq.of_mu (fun b hb => by rw [h2]; exact h5 b hb), ?_, h7⟩
      have : (R ++ [(et, 0)]).set R.length (et, ([] : List (List LV)).length + e'.length) = R ++ [(et, e'.length)] := by simp
      rw [this] at h6; exact h6
    · cases h
  · cases h
end
end Go.Abs
