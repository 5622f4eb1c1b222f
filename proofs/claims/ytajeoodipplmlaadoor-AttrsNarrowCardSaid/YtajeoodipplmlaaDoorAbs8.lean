/-
  'pv_sound': an operation that only reckons.
-/
import Derived.Test.YtajeoodipplmlaaDoorAbs7
set_option linter.all false
namespace Go.Abs
open Go Go.RowKit

section
variable {P : Program} {G : Nat → Option (List LV)} {H : Nat → Bool} {X : Ctx} {σ : List Blk} {R : RowsA} {n : Nat} {env : Env} {a : Act}

theorem capsL_sound : ∀ (vs : List AV) (cs : List (Nat × Nat)) (us : List Value), capsL vs = some cs → (∀ (j : Nat) (v : AV), vs[j]? = some v → ∃ u, us[j]? = some u ∧ RepV X v u) → vs.length = us.length →
    cs.length = us.length ∧ ∀ (j : Nat) (c : Nat × Nat), cs[j]? = some c → ∃ b, X.mu[c.1]? = some b ∧ us[j]? = some (.pointer (some ⟨b, c.2, none⟩))
  | [], cs, us, h, _, hl => by
    simp only [capsL, Option.some.injEq] at h
    subst h
    exact ⟨by simpa using hl, fun j c hc => by simp at hc⟩
  | v :: vs, cs, us, h, hv, hl => by
    match us, hl with
    | u :: us, hl =>
      match v, h with
      | .l (.ptr i o), h =>
        simp only [capsL] at h
        cases hr : capsL vs with
        | none => simp [hr] at h
        | some r =>
          simp [hr] at h; subst h
          obtain ⟨k1, k2⟩ := capsL_sound vs r us hr (fun j v hj => by simpa using hv (j + 1) v (by simpa using hj)) (by simpa using hl)
          refine ⟨by simp [k1], fun j c hc => ?_⟩
          cases j with
          | zero =>
            simp at hc; subst hc
            obtain ⟨u', h1, b, h2, h3⟩ := hv 0 _ rfl
            simp at h1; subst h1
            exact ⟨b, h2, by simp [h3]⟩
          | succ j => simpa using k2 j c (by simpa using hc)

theorem strInts_size (s : ByteArray) : (strInts s).length = s.size := by
  unfold strInts
  rw [List.length_map]
  rfl

theorem builtinV_one {b : Builtin} {S S' : Prop} {x v : AV} {u : Value} {ts : Array TypeId} {t : TypeId} {tl : List TypeId} {ty : TypeId} (hts : ts.toList = t :: tl) (h : builtinV P b t S [x] = some (S', v)) (hS : S')
    (hx : RepV X x u) : S ∧ ∃ r, RepV X v r ∧ ∀ w cs, (builtin b ts ty cs #[u]).run P w = .ok (.value r) w := by
  have ht0 : ts[0]? = some t := by rw [← Array.getElem?_toList, hts]; rfl
  unfold builtinV at h
  split at h
  · rename_i own sz e heq
    simp only [List.cons.injEq, and_true] at heq
    subst heq
    split at h
    · rename_i et hu
      simp only [Option.some.injEq, Prod.mk.injEq] at h
      obtain ⟨e1, rfl⟩ := h
      subst e1
      obtain ⟨ad, cap, b, o, vf, rfl, _⟩ := slice_form (rep_slice hx)
      exact ⟨hS, _, mk_int _ _, fun w cs => by simp [builtin, Builtin.len_, ht0, run_underlying hu, goInt]⟩
    · cases h
  · rename_i i0 off sz len heq
    simp only [List.cons.injEq, and_true] at heq
    subst heq
    split at h
    · rename_i et hu
      simp only [Option.some.injEq, Prod.mk.injEq] at h
      obtain ⟨e1, rfl⟩ := h
      subst e1
      obtain ⟨b, cap, _, rfl, _⟩ := hx
      exact ⟨hS, _, mk_int _ _, fun w cs => by simp [builtin, Builtin.len_, ht0, run_underlying hu, goInt]⟩
    · cases h
  · rename_i s heq
    simp only [List.cons.injEq, and_true] at heq
    subst heq
    split at h
    · rename_i hu
      simp only [Option.some.injEq, Prod.mk.injEq] at h
      obtain ⟨e1, rfl⟩ := h
      subst e1
      obtain ⟨s', rfl, rfl⟩ := repL_str hx
      exact ⟨hS, _, mk_int _ _, fun w cs => by simp [builtin, Builtin.len_, ht0, run_underlying hu, goInt, strInts_size]⟩
    · cases h
  · rename_i heq
    simp at heq
  · cases h

theorem builtinV_two {b : Builtin} {S S' : Prop} {x y v : AV} {u q : Value} {ts : Array TypeId} {t : TypeId} {ty : TypeId} (h : builtinV P b t S [x, y] = some (S', v)) (hS : S')
    (hx : RepV X x u) (hy : RepV X y q) : S ∧ ∃ r, RepV X v r ∧ ∀ w cs, (builtin b ts ty cs #[u, q]).run P w = .ok (.value r) w := by
  unfold builtinV at h
  split at h
  · rename_i heq; simp at heq
  · rename_i heq; simp at heq
  · rename_i heq; simp at heq
  · rename_i k m k' m' heq
    simp only [List.cons.injEq, and_true] at heq
    obtain ⟨rfl, rfl⟩ := heq
    rw [repL_int hx, repL_int hy]
    split at h
    · rename_i hk
      subst hk
      split at h
      · simp only [Option.some.injEq, Prod.mk.injEq] at h
        obtain ⟨e1, rfl⟩ := h
        subst e1
        exact ⟨hS, _, mk_int _ _, fun w cs => by simp [builtin, Builtin.max_, Builtin.max2]⟩
      · simp only [Option.some.injEq, Prod.mk.injEq] at h
        obtain ⟨e1, rfl⟩ := h
        subst e1
        exact ⟨hS, _, mk_int _ _, fun w cs => by simp [builtin, Builtin.min_, Builtin.min2]⟩
      · cases h
    · cases h
  · cases h

theorem toList_two {α : Type} {xs : Array α} {x y : α} (h : xs.toList = [x, y]) : xs = #[x, y] := by
  apply Array.ext'; simpa using h
theorem toList_one {α : Type} {xs : Array α} {x : α} (h : xs.toList = [x]) : xs = #[x] := by
  apply Array.ext'; simpa using h

theorem pv_sound (hI : Inv G X σ R) (he : EnvOk X n env a) {o : Oper} {S : Prop} {v : AV} (h : pv P G H env σ o.op = some (S, v)) (hS : S) :
    ∃ r, RepV X v r ∧ ∀ w', (memFree o.op = true ∨ Agree H X w') → (execOp a.eval o).run P w' = .ok (.value r) w' := by
  obtain ⟨dst, op, type, pos, aft, guard⟩ := o
  simp only at h
  cases op <;> simp only [pv] at h <;> try (cases h; done)
  case move x =>
    cases hx : opR G env x with
    | none => simp [hx] at h
    | some u =>
      simp only [hx, Option.map_some, Option.some.injEq, Prod.mk.injEq] at h
      obtain ⟨_, rfl⟩ := h
      exact ⟨_, opR_sound hI he hx, fun w' _ => by simp [execOp]⟩
  case assign x =>
    cases hx : opR G env x with
    | none => simp [hx] at h
    | some u =>
      simp only [hx, Option.map_some, Option.some.injEq, Prod.mk.injEq] at h
      obtain ⟨_, rfl⟩ := h
      exact ⟨_, opR_sound hI he hx, fun w' _ => by simp [execOp]⟩
  case pick c x y =>
    split at h
    · rename_i gc c' gx p gy q h1 h2 h3
      simp only [Option.some.injEq, Prod.mk.injEq] at h
      obtain ⟨e1, rfl⟩ := h
      subst e1
      obtain ⟨k1, k2, k3⟩ := hS
      have r1 := repL_bool (opU_sound hI he h1 k1)
      refine ⟨_, mk_bool _, fun w' _ => ?_⟩
      cases c' with
      | true =>
        have r2 := repL_bool (opU_sound hI he h2 (k2 rfl))
        simp [execOp, r1, asBool, r2]
      | false =>
        have r3 := repL_bool (opU_sound hI he h3 (k3 rfl))
        simp [execOp, r1, asBool, r3]
    · cases h
  case load t x =>
    split at h
    · rename_i g u h1
      cases hl : loadV P H t σ u with
      | none => simp [hl] at h
      | some u' =>
        simp only [hl, Option.map_some, Option.some.injEq, Prod.mk.injEq] at h
        obtain ⟨e1, rfl⟩ := h
        subst e1
        obtain ⟨q, k1, k2⟩ := load_sound (P := P) hI (opU_sound hI he h1 hS) hl
        exact ⟨q, k1, fun w' hw' => by
        rcases hw' with hw' | hw'
        · cases hw'
        · simp [execOp, k2 w' hw']⟩
    · cases h
  case nilCheck x =>
    split at h <;> try (cases h; done)
    · rename_i g i o' h1
      simp only [Option.some.injEq, Prod.mk.injEq] at h
      obtain ⟨e1, rfl⟩ := h
      subst e1
      have hr := opU_sound hI he h1 hS
      refine ⟨_, hr, fun w' _ => ?_⟩
      obtain ⟨b, _, hb⟩ := hr
      simp [execOp, hb]
    · rename_i g cells o' h1
      simp only [Option.some.injEq, Prod.mk.injEq] at h
      obtain ⟨e1, rfl⟩ := h
      subst e1
      have hr := opU_sound hI he h1 hS
      refine ⟨_, hr, fun w' _ => ?_⟩
      obtain ⟨b, o', hb, _⟩ := hr
      simp [execOp, hb]
    · rename_i g f caps h1
      simp only [Option.some.injEq, Prod.mk.injEq] at h
      obtain ⟨e1, rfl⟩ := h
      subst e1
      have hr := opU_sound hI he h1 hS
      refine ⟨_, hr, fun w' _ => ?_⟩
      obtain ⟨rs, hb, _⟩ := hr
      simp [execOp, hb]
    · rename_i g f i o' h1
      simp only [Option.some.injEq, Prod.mk.injEq] at h
      obtain ⟨e1, rfl⟩ := h
      subst e1
      have hr := opU_sound hI he h1 hS
      refine ⟨_, hr, fun w' _ => ?_⟩
      obtain ⟨b, _, hb⟩ := hr
      simp [execOp, hb]
  case binOp op t x y yt =>
    split at h
    · rename_i g u g' u' h1 h2
      have hS' : g = true ∧ g' = true := by
        have : S → g = true ∧ g' = true := by
          intro hS
          -- the guards are part of what is asked
          unfold binV at h
          revert h
          split <;> intro h
          · unfold binI at h
            revert h
            cases op <;> simp only [] <;> intro h <;>
              first
                | (simp only [Option.some.injEq, Prod.mk.injEq] at h; obtain ⟨e1, _⟩ := h; subst e1; exact hS.1)
                | (split at h <;> simp only [Option.some.injEq, Prod.mk.injEq, reduceCtorEq] at h; obtain ⟨e1, _⟩ := h; subst e1; first | exact hS | exact hS.1)
          all_goals
            first
              | (cases h; done)
              | (repeat' split at h) <;> simp only [Option.some.injEq, Prod.mk.injEq, reduceCtorEq] at h <;> (obtain ⟨e1, _⟩ := h; subst e1; exact hS)
        exact this hS
      obtain ⟨_, q, k1, k2⟩ := binV_sound (X := X) h hS (opU_sound hI he h1 hS'.1) (opU_sound hI he h2 hS'.2) hS
      refine ⟨q, k1, fun w' _ => ?_⟩
      have := k2 w' x y
      simp only [execOp, Sem.run_bind] at this ⊢
      rw [this]; rfl
    · cases h
  case unOp op t x =>
    split at h
    · rename_i g u h1
      have hg : g = true := by
        unfold unV at h
        (repeat' split at h) <;> simp only [Option.some.injEq, Prod.mk.injEq, reduceCtorEq] at h
        obtain ⟨e1, _⟩ := h; subst e1; exact hS
      obtain ⟨_, q, k1, k2⟩ := unV_sound (P := P) h hS (opU_sound hI he h1 hg)
      exact ⟨q, k1, fun w' _ => by simp [execOp, k2]⟩
    · cases h
  case convert src dst x =>
    split at h
    · rename_i g u h1
      have hg : g = true := by
        unfold convV at h
        (repeat' split at h) <;> simp only [Option.some.injEq, Prod.mk.injEq, reduceCtorEq] at h <;> (obtain ⟨e1, _⟩ := h; subst e1; first | exact hS | exact hS.1)
      obtain ⟨_, q, k1, k2⟩ := convV_sound (H := H) h hS (opU_sound hI he h1 hg)
      exact ⟨q, k1, fun w' hw' => by
        rcases hw' with hw' | hw'
        · cases hw'
        · simp [execOp, k2 w' hw']⟩
    · cases h
  case fieldAddr t x f =>
    split at h
    · rename_i g u h1
      have hg : g = true := by
        unfold fieldAddrV at h
        (repeat' split at h) <;> simp only [Option.some.injEq, Prod.mk.injEq, reduceCtorEq] at h <;> (obtain ⟨e1, _⟩ := h; subst e1; exact hS)
      obtain ⟨_, q, k1, k2⟩ := fieldAddrV_sound (P := P) h hS (opU_sound hI he h1 hg)
      exact ⟨q, k1, fun w' _ => by simp [execOp, k2]⟩
    · cases h
  case field t x f =>
    split at h
    · rename_i g u h1
      have hg : g = true := by
        unfold fieldV at h
        split at h
        · split at h
          · simp only [Option.map_eq_some_iff, Prod.mk.injEq] at h
            obtain ⟨_, _, e1, _⟩ := h
            subst e1
            exact hS
          · cases h
        · cases h
      obtain ⟨_, q, k1, k2⟩ := fieldV_sound (P := P) h hS (opU_sound hI he h1 hg)
      exact ⟨q, k1, fun w' _ => by simp [execOp, k2]⟩
    · cases h
  case indexAddr t x i =>
    split at h
    · rename_i g u g' u' h1 h2
      have hg : g = true ∧ g' = true := by
        unfold arrAddrV at h
        (repeat' split at h) <;> simp only [Option.some.injEq, Prod.mk.injEq, reduceCtorEq] at h <;> (obtain ⟨e1, _⟩ := h; subst e1; exact hS.1)
      obtain ⟨_, q, k1, k2⟩ := arrAddrV_sound (P := P) h hS (opU_sound hI he h1 hg.1) (opU_sound hI he h2 hg.2)
      exact ⟨q, k1, fun w' _ => by simp [execOp, k2]⟩
    · cases h
  case index t x i =>
    split at h
    · rename_i g u g' u' h1 h2
      have hg : g = true ∧ g' = true := by
        unfold indexV at h
        split at h
        · split at h
          · split at h
            · simp only [Option.map_eq_some_iff, Prod.mk.injEq] at h
              obtain ⟨_, _, e1, _⟩ := h
              subst e1
              exact hS.1
            · cases h
          · cases h
        · cases h
      obtain ⟨_, q, k1, k2⟩ := indexV_sound (P := P) h hS (opU_sound hI he h1 hg.1) (opU_sound hI he h2 hg.2)
      exact ⟨q, k1, fun w' _ => by simp [execOp, k2]⟩
    · cases h
  case extract x i =>
    split at h
    · rename_i vs h1
      cases hv : vs[i]? with
      | none => simp [hv] at h
      | some u =>
        simp only [hv, Option.map_some, Option.some.injEq, Prod.mk.injEq] at h
        obtain ⟨_, rfl⟩ := h
        obtain ⟨rs, hr, _, hc⟩ := opA_sound hI he h1
        obtain ⟨q, k1, k2⟩ := hc i u hv
        refine ⟨q, ?_, fun w' _ => by simp [execOp, hr, Instr.extract, k1]⟩
        cases u with
        | l x => exact k2
        | agg x => exact k2
        | undef => exact k2
        | tup x => exact k2.elim
        | ifb x y => exact k2.elim
    · cases h
  case slice t x lo hi mx =>
    cases mx with
    | some m => simp only [pv] at h; cases h
    | none =>
      simp only [pv] at h
      split at h
      · rename_i u p q h1 h2 h3
        cases lo with
        | none => simp at h2
        | some lo =>
          cases hi with
          | none => simp at h3
          | some hi =>
            simp only [Option.map_some, Option.some.injEq] at h2 h3
            obtain ⟨_, r, k1, k2⟩ := sliceV_sound (P := P) (lr := some (a.eval lo)) (hr := some (a.eval hi)) h hS (opA_sound hI he h1)
              (fun y hy => by obtain rfl := Option.some.inj hy; exact ⟨_, rfl, opA_sound hI he h2⟩) (by simp) (fun y hy => by obtain rfl := Option.some.inj hy; exact ⟨_, rfl, opA_sound hI he h3⟩) (by simp)
            exact ⟨r, k1, fun w' _ => by simp [execOp, k2]⟩
      · rename_i u q h1 h2 h3
        cases lo with
        | some lo => simp at h2
        | none =>
          cases hi with
          | none => simp at h3
          | some hi =>
            simp only [Option.map_some, Option.some.injEq] at h3
            obtain ⟨_, r, k1, k2⟩ := sliceV_sound (P := P) (lr := none) (hr := some (a.eval hi)) h hS (opA_sound hI he h1)
              (by simp) (by simp) (fun y hy => by obtain rfl := Option.some.inj hy; exact ⟨_, rfl, opA_sound hI he h3⟩) (by simp)
            exact ⟨r, k1, fun w' _ => by simp [execOp, k2]⟩
      · rename_i u p h1 h2 h3
        cases hi with
        | some hi => simp at h3
        | none =>
          cases lo with
          | none => simp at h2
          | some lo =>
            simp only [Option.map_some, Option.some.injEq] at h2
            obtain ⟨_, r, k1, k2⟩ := sliceV_sound (P := P) (lr := some (a.eval lo)) (hr := none) h hS (opA_sound hI he h1)
              (fun y hy => by obtain rfl := Option.some.inj hy; exact ⟨_, rfl, opA_sound hI he h2⟩) (by simp) (by simp) (by simp)
            exact ⟨r, k1, fun w' _ => by simp [execOp, k2]⟩
      · cases h
  case build t parts =>
    split at h
    · rename_i vs h1
      cases hb : buildV P t vs with
      | none => simp [hb] at h
      | some u =>
        simp only [hb, Option.map_some, Option.some.injEq, Prod.mk.injEq] at h
        obtain ⟨_, rfl⟩ := h
        obtain ⟨rs, k1, k2⟩ := buildV_sound (opParts_sound hI he _ _ h1) hb
        refine ⟨_, k2, fun w' _ => ?_⟩
        have := run_build (P := P) w' t (parts.map fun (i, x) => (i, a.eval x)) rs (by simpa using k1)
        simp [execOp, this]
    · cases h
  case makeFunc fn first caps =>
    cases fn <;> simp only [pv] at h <;> try (cases h; done)
    case func f =>
      split at h
      · rename_i hf
        split at h
        · rename_i vs h1
          cases hc : capsL vs with
          | none => simp [hc] at h
          | some cs =>
            simp only [hc, Option.map_some, Option.some.injEq, Prod.mk.injEq] at h
            obtain ⟨_, rfl⟩ := h
            obtain ⟨k1, k2⟩ := opAll_sound hI he _ _ h1
            obtain ⟨j1, j2⟩ := capsL_sound (X := X) vs cs _ hc k2 (by simpa using k1)
            have hfirst : first = #[] := Array.eq_empty_of_size_eq_zero hf
            refine ⟨.func (.func f) #[] (caps.map a.eval), ⟨_, rfl, by simpa using j1, fun j c hj => ?_⟩, fun w' _ => ?_⟩
            · obtain ⟨b, b1, b2⟩ := j2 j c hj
              exact ⟨b, b1, by simpa using b2⟩
            · simp [execOp, Instr.makeFunc, hfirst]
        · cases h
      · split at h
        · rename_i i o' h1 h2
          simp only [Option.some.injEq, Prod.mk.injEq] at h
          obtain ⟨_, rfl⟩ := h
          obtain ⟨k1, k2⟩ := opAll_sound hI he _ _ h1
          obtain ⟨x, hx⟩ : ∃ x, first.toList = [x] := by
            match hf1 : first.toList, k1 with
            | [x], _ => exact ⟨x, rfl⟩
          have hfirst : first = #[x] := toList_one hx
          have hcaps : caps = #[] := by simpa using h2
          obtain ⟨u, u1, b, b1, b2⟩ := k2 0 _ rfl
          have u2 : u = a.eval x := by
            rw [hx] at u1
            simpa using u1.symm
          refine ⟨.func (.func f) #[a.eval x] #[], ⟨b, b1, by rw [← u2, b2]⟩, fun w' _ => ?_⟩
          simp [execOp, Instr.makeFunc, hfirst, hcaps]
        · cases h
  case call c =>
    split at h
    · rename_i b x t tl hcal hargs hts
      split at h
      · rename_i g u h1
        have hg : g = true := by
          unfold builtinV at h
          (repeat' split at h) <;> simp only [Option.some.injEq, Prod.mk.injEq, reduceCtorEq] at h <;> (obtain ⟨e1, _⟩ := h; subst e1; exact hS)
        have hax := toList_one hargs
        obtain ⟨_, q, k1, k2⟩ := builtinV_one (P := P) (ty := type) hts h hS (opU_sound hI he h1 hg)
        refine ⟨q, k1, fun w' _ => ?_⟩
        simp only [execOp, resolve, hcal, hax, Sem.run_bind, Sem.run_pure, Result.andThen_ok, invoke]
        rw [show Array.map a.eval #[x] = #[a.eval x] from by simp]
        exact k2 w' _
      · cases h
    · rename_i b x y t tl hcal hargs hts
      split at h
      · rename_i g u g' u' h1 h2
        have hg : g = true ∧ g' = true := by
          unfold builtinV at h
          (repeat' split at h) <;> simp only [Option.some.injEq, Prod.mk.injEq, reduceCtorEq] at h <;> (obtain ⟨e1, _⟩ := h; subst e1; exact hS)
        have hax := toList_two hargs
        obtain ⟨_, q, k1, k2⟩ := builtinV_two (P := P) (ty := type) (ts := c.argTypes) h hS (opU_sound hI he h1 hg.1) (opU_sound hI he h2 hg.2)
        refine ⟨q, k1, fun w' _ => ?_⟩
        simp only [execOp, resolve, hcal, hax, Sem.run_bind, Sem.run_pure, Result.andThen_ok, invoke]
        rw [show Array.map a.eval #[x, y] = #[a.eval x, a.eval y] from by simp]
        exact k2 w' _
      · cases h
    · cases h
end
end Go.Abs
