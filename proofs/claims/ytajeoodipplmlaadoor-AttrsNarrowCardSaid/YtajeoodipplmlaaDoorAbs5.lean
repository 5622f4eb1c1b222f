/-
  THE OPERATIONS THAT ONLY RECKON, one by one: 'pv_sound'.
-/
import Derived.Test.YtajeoodipplmlaaDoorAbs4
import Derived.Laws.Shifts
set_option linter.all false
namespace Go.Abs
open Go Go.RowKit

section
variable {P : Program} {G : Nat → Option (List LV)} {H : Nat → Bool} {X : Ctx} {σ : List Blk} {R : RowsA} {n : Nat} {env : Env} {a : Act}

theorem strInts_iff {s t : ByteArray} : s.toList = t.toList ↔ strInts s = strInts t := by
  rw [ByteArray.toList_eq, ByteArray.toList_eq]
  unfold strInts
  constructor
  · intro h; rw [h]
  · intro h
    exact (List.map_inj_right (fun x y hxy => by
      have : x.toNat = y.toNat := by omega
      exact UInt8.toNat_inj.1 this)).1 h

theorem binI_sound {op : BinOp} {k k' : IntKind} {x y : Int} {S S' : Prop} {v : AV} (t : TypeId) (h : binI op k x k' y S = some (S', v)) (hS : S') :
    S ∧ ∃ r, RepV X v r ∧ ∀ w, (binOp op t (.int k x) (.int k' y)).run P w = .ok r w := by
  cases op <;> simp only [binI] at h
  case shl =>
    obtain ⟨rfl, rfl⟩ : (S ∧ 0 ≤ y) = S' ∧ _ = v := by simpa using h
    refine ⟨hS.1, _, mk_int _ _, fun w => ?_⟩
    have h0 : ¬ y < 0 := by omega
    simp [Go.binOp_shl, Op.shift, h0]
  case shr =>
    obtain ⟨rfl, rfl⟩ : (S ∧ 0 ≤ y) = S' ∧ _ = v := by simpa using h
    refine ⟨hS.1, _, mk_int _ _, fun w => ?_⟩
    have h0 : ¬ y < 0 := by omega
    simp [Go.binOp_shr, Op.shift, h0]
  all_goals
    split at h
    · rename_i hk
      subst hk
      simp only [Option.some.injEq, Prod.mk.injEq] at h
      obtain ⟨h1, rfl⟩ := h
      subst h1
      first
        | (refine ⟨hS, _, mk_int _ _, fun w => ?_⟩; first | (simp [binOp, Op.intArith]; done) | (simp [binOp]; rfl))
        | (refine ⟨hS, _, mk_bool _, fun w => ?_⟩; first | (simp [binOp, Op.intCmp]; done) | (simp [binOp, Op.intCmp]; rfl))
        | (refine ⟨hS.1, _, mk_int _ _, fun w => ?_⟩; simp [binOp, Op.intDiv, hS.2])
    · cases h

theorem eq_depth : Op.maxDepth = 9999 + 1 := rfl

theorem leaf_part {cs : Array Value} {t : TypeId} {o : Nat} {r : Value} {w : World} (hl : leafD (P.underlying t) = true) (hr : cs[o]? = some r) : (part t cs o).run P w = .ok r w := by
  cases hu : P.underlying t with
  | none => simp [hu, leafD] at hl
  | some d =>
    have hag : aggD (some d) = false := by cases d <;> simp_all [leafD, aggD]
    simp [part, run_isAggT hu, hag, hr]

theorem leaf_eq {t : TypeId} {x y : LV} {xs ys : List LV} {r q : Value} {c : Bool} (w : World) (d : Nat) (hl : leafD (P.underlying t) = true) (hx : RepL X x r) (hy : RepL X y q)
    (he : eqCells (x :: xs) (y :: ys) = some c) : ∃ c1 c2, (Op.equalIn (d + 1) t r q).run P w = .ok c1 w ∧ eqCells xs ys = some c2 ∧ c = (c1 && c2) := by
  cases x <;> cases y <;> simp only [eqCells] at he <;> try (cases he; done)
  case int.int k m k' m' =>
    split at he
    · rename_i hk
      subst hk
      cases hc : eqCells xs ys with
      | none => simp [hc] at he
      | some c2 =>
        simp [hc] at he
        cases hu : P.underlying t with
        | none => simp [hu, leafD] at hl
        | some u =>
          rw [repL_int hx, repL_int hy]
          cases u <;> simp [hu, leafD] at hl
          case int k0 => exact ⟨_, c2, run_equalIn_int w d t k k0 m m' hu, rfl, by rw [← he]; rfl⟩
    · cases he

/-- '==' of a struct's fields that are numbers. -/
theorem eqFields_run {rs qs : Array Value} {w : World} {d : Nat} : ∀ (fs : List Field) (o : Nat) (xs ys : List LV) (c : Bool), flatFields P fs o = true →
    (∀ (j : Nat) (x : LV), xs[j]? = some x → ∃ r, rs[o + j]? = some r ∧ RepL X x r) → (∀ (j : Nat) (x : LV), ys[j]? = some x → ∃ r, qs[o + j]? = some r ∧ RepL X x r) →
      xs.length = fs.length → ys.length = fs.length → eqCells xs ys = some c → (Op.eqFields (d + 1) rs qs fs).run P w = .ok c w
  | [], o, xs, ys, c, _, _, _, hx, hy, he => by
    obtain rfl := List.eq_nil_of_length_eq_zero hx
    obtain rfl := List.eq_nil_of_length_eq_zero hy
    simp only [eqCells, Option.some.injEq] at he
    subst he
    rfl
  | f :: fs, o, xs, ys, c, hf, hrx, hry, hx, hy, he => by
    match xs, ys, hx, hy with
    | x :: xs, y :: ys, hx, hy =>
      simp only [flatFields, Bool.and_eq_true, bne_iff_ne, ne_eq, beq_iff_eq] at hf
      obtain ⟨⟨⟨⟨hn, ho⟩, hl⟩, _⟩, hrest⟩ := hf
      obtain ⟨r, h1, h2⟩ := hrx 0 x rfl
      obtain ⟨q, k1, k2⟩ := hry 0 y rfl
      obtain ⟨c1, c2, e1, e2, rfl⟩ := leaf_eq w d hl h2 k2 he
      have ih := eqFields_run (w := w) (d := d) fs (o + 1) xs ys c2 hrest (fun j x hj => by
        obtain ⟨r', a1, a2⟩ := hrx (j + 1) x hj
        exact ⟨r', by rw [show o + 1 + j = o + (j + 1) by omega]; exact a1, a2⟩) (fun j x hj => by
        obtain ⟨r', a1, a2⟩ := hry (j + 1) x hj
        exact ⟨r', by rw [show o + 1 + j = o + (j + 1) by omega]; exact a1, a2⟩) (by simpa using hx) (by simpa using hy) e2
      have p1 : (part f.type rs f.offset).run P w = .ok r w := leaf_part hl (by rw [ho]; simpa using h1)
      have p2 : (part f.type qs f.offset).run P w = .ok q w := leaf_part hl (by rw [ho]; simpa using k1)
      cases c1
      · simp [Op.eqFields, hn, p1, p2, e1]
      · simp [Op.eqFields, hn, p1, p2, e1, ih]

theorem eqAgg_run {xs ys : List LV} {rs qs : Array Value} {t : TypeId} {c : Bool} (w : World) (hf : flatEq P t = true) (hlx : xs.length = szT P t) (hly : ys.length = szT P t)
    (hx : ∀ (j : Nat) (x : LV), xs[j]? = some x → ∃ r, rs[j]? = some r ∧ RepL X x r) (hy : ∀ (j : Nat) (x : LV), ys[j]? = some x → ∃ r, qs[j]? = some r ∧ RepL X x r)
    (he : eqCells xs ys = some c) : (Op.equalIn (9998 + 1 + 1) t (.agg rs) (.agg qs)).run P w = .ok c w := by
  unfold flatEq at hf
  cases hu : P.underlying t with
  | none => simp [hu] at hf
  | some u =>
    cases u <;> simp [hu] at hf
    case struct fs =>
      obtain ⟨_, ⟨hs, hfl⟩, hn⟩ := hf
      have hfo : P.fieldsOf t = fs := by simp [Program.fieldsOf, hu]
      rw [run_equalIn_struct w 9999 t rs qs (by rw [hfo]; exact hu) hs, hfo]
      exact eqFields_run fs.toList 0 xs ys c hfl (by simpa using hx) (by simpa using hy) (by rw [hlx, ← hn]; simp) (by rw [hly, ← hn]; simp) he
    case array m e =>
      obtain ⟨_, ⟨⟨hl, hs⟩, rfl⟩, hst⟩ := hf
      obtain ⟨ie, hie, hsz⟩ := info_of_sz (P := P) (t := e) (by omega)
      rw [hs] at hsz
      rw [hst] at hlx hly
      match xs, ys, hlx, hly with
      | [x0, x1, x2], [y0, y1, y2], _, _ =>
        obtain ⟨r0, a0, b0⟩ := hx 0 x0 rfl
        obtain ⟨r1, a1, b1⟩ := hx 1 x1 rfl
        obtain ⟨r2, a2, b2⟩ := hx 2 x2 rfl
        obtain ⟨q0, c0, d0⟩ := hy 0 y0 rfl
        obtain ⟨q1, c1, d1⟩ := hy 1 y1 rfl
        obtain ⟨q2, c2, d2⟩ := hy 2 y2 rfl
        obtain ⟨e0, f0, g0, h0, rfl⟩ := leaf_eq w 9998 hl b0 d0 he
        obtain ⟨e1, f1, g1, h1, rfl⟩ := leaf_eq w 9998 hl b1 d1 h0
        obtain ⟨e2, f2, g2, h2, rfl⟩ := leaf_eq w 9998 hl b2 d2 h1
        simp only [eqCells, Option.some.injEq] at h2
        subst h2
        have p0 : (part e rs 0).run P w = .ok r0 w := leaf_part hl a0
        have p1 : (part e rs 1).run P w = .ok r1 w := leaf_part hl a1
        have p2 : (part e rs 2).run P w = .ok r2 w := leaf_part hl a2
        have s0 : (part e qs 0).run P w = .ok q0 w := leaf_part hl c0
        have s1 : (part e qs 1).run P w = .ok q1 w := leaf_part hl c1
        have s2 : (part e qs 2).run P w = .ok q2 w := leaf_part hl c2
        rw [Op.equalIn]
        simp only [Sem.run_bind, run_underlying hu, Result.andThen_ok, run_sizeT hie, hsz, Std.Legacy.Range.forIn_eq_forIn_range', Std.Legacy.Range.size]
        simp [List.range', p0, p1, p2, s0, s1, s2, g0, g1, g2]
        cases e0 <;> cases e1 <;> cases e2 <;> simp [p0, p1, p2, s0, s1, s2, g0, g1, g2]
end
end Go.Abs
