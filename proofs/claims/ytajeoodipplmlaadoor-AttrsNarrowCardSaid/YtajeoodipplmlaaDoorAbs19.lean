/-
  RUNNING CODE OVER ABSTRACT VALUES: a function that carries a program's code out, on values without addresses, as far as it can. What an operation comes to there is what the rules of 'aop' say of it.
-/
import Derived.Test.YtajeoodipplmlaaDoorAbs18
import Derived.LoopN
set_option linter.all false
namespace Go.Abs
open Go Go.RowKit

/-! ### Whether what an operation asks for holds -/
def gOk : Option (Bool × AV) → Bool
  | some (g, _) => g
  | none => false
def intOk (f : Int → Bool) : AV → Bool
  | .l (.int _ n) => f n
  | _ => false
def okBin : BinOp → AV → Bool
  | .shl, b => intOk (fun n => decide (0 ≤ n)) b
  | .shr, b => intOk (fun n => decide (0 ≤ n)) b
  | .quo, b => intOk (fun n => !decide (n = 0)) b
  | .rem, b => intOk (fun n => !decide (n = 0)) b
  | _, _ => true
def byteOk : List LV → Bool
  | [.int .u8 n] => decide (0 ≤ n) && decide (n < 256)
  | _ => false
def okConv : AV → Bool
  | .l (.slice _ _ e) => e.all byteOk
  | _ => true
def okArr (len : Nat) : AV → Bool := intOk fun n => decide (0 ≤ n) && decide (n < len)
def okSlice : Option AV → Option AV → AV → Bool
  | some (.l (.int _ a)), some (.l (.int _ b)), .l (.slice _ _ e) => decide (0 ≤ a) && decide (a ≤ b) && decide (b ≤ (e.length : Int))
  | none, some (.l (.int _ b)), .l (.slice _ _ e) => decide (0 ≤ b) && decide (b ≤ (e.length : Int))
  | some (.l (.int _ a)), none, .l (.slice _ _ e) => decide (0 ≤ a) && decide (a ≤ (e.length : Int))
  | _, _, _ => false
def valOf : Option (Bool × AV) → AV
  | some (_, v) => v
  | none => .undef
def okPv (P : Program) (G : Nat → Option (List LV)) (env : Env) : Op → Bool
  | .move _ => true
  | .assign _ => true
  | .pick c x y => match opU G env c, opU G env x, opU G env y with
    | some (gc, .l (.bool c)), some (gx, _), some (gy, _) => gc && cond c gx gy
    | _, _, _ => false
  | .load _ x => gOk (opU G env x)
  | .nilCheck x => gOk (opU G env x)
  | .binOp op _ x y _ => gOk (opU G env x) && gOk (opU G env y) && okBin op (valOf (opU G env y))
  | .unOp _ _ x => gOk (opU G env x)
  | .convert _ _ x => gOk (opU G env x) && okConv (valOf (opU G env x))
  | .fieldAddr _ x _ => gOk (opU G env x)
  | .field _ x _ => gOk (opU G env x)
  | .indexAddr t x i => gOk (opU G env x) && gOk (opU G env i) && (match arrT P t with
    | some (len, _) => okArr len (valOf (opU G env i))
    | none => false)
  | .index t x i => gOk (opU G env x) && gOk (opU G env i) && (match arrT P t with
    | some (len, _) => okArr len (valOf (opU G env i))
    | none => false)
  | .extract _ _ => true
  | .slice _ x lo hi _ => (match opA G env x with
    | some v => okSlice (lo.bind (opA G env)) (hi.bind (opA G env)) v
    | none => false)
  | .build _ _ => true
  | .makeFunc _ _ _ => true
  | .call c => c.args.toList.all fun x => gOk (opU G env x)
  | _ => false

section
variable {P : Program} {G : Nat → Option (List LV)} {H : Nat → Bool} {env : Env} {σ : List Blk}

theorem okBin_ok {op : BinOp} {t : TypeId} {S0 S : Prop} {a b v : AV} (h : binV P op t S0 a b = some (S, v)) (h0 : S0) (hb : okBin op b = true) : S := by
  unfold binV at h
  split at h
  · rename_i k m k' m'
    cases op <;> simp only [binI] at h
    case shl =>
      simp only [Option.some.injEq, Prod.mk.injEq] at h
      obtain ⟨e1, _⟩ := h; subst e1
      exact ⟨h0, by simpa [okBin, intOk] using hb⟩
    case shr =>
      simp only [Option.some.injEq, Prod.mk.injEq] at h
      obtain ⟨e1, _⟩ := h; subst e1
      exact ⟨h0, by simpa [okBin, intOk] using hb⟩
    case quo =>
      split at h <;> simp only [Option.some.injEq, Prod.mk.injEq, reduceCtorEq] at h
      obtain ⟨e1, _⟩ := h; subst e1
      exact ⟨h0, by simpa [okBin, intOk] using hb⟩
    case rem =>
      split at h <;> simp only [Option.some.injEq, Prod.mk.injEq, reduceCtorEq] at h
      obtain ⟨e1, _⟩ := h; subst e1
      exact ⟨h0, by simpa [okBin, intOk] using hb⟩
    all_goals
      split at h <;> simp only [Option.some.injEq, Prod.mk.injEq, reduceCtorEq] at h
      obtain ⟨e1, _⟩ := h; subst e1; exact h0
  all_goals first
    | (cases h; done)
    | ((repeat' split at h) <;> simp only [Option.some.injEq, Prod.mk.injEq, reduceCtorEq] at h <;> (obtain ⟨e1, _⟩ := h; subst e1; exact h0))

theorem byteOk_spec {c : List LV} (h : byteOk c = true) : ∃ n : Int, c = [.int .u8 n] ∧ 0 ≤ n ∧ n < 256 := by
  unfold byteOk at h
  split at h
  · rename_i n
    simp only [Bool.and_eq_true, decide_eq_true_eq] at h
    exact ⟨n, rfl, h.1, h.2⟩
  · cases h

theorem okConv_ok {s t : TypeId} {S0 S : Prop} {a v : AV} (h : convV P s t S0 a = some (S, v)) (h0 : S0) (hb : okConv a = true) : S := by
  unfold convV at h
  split at h
  · split at h <;> simp only [Option.some.injEq, Prod.mk.injEq, reduceCtorEq] at h
    obtain ⟨e1, _⟩ := h; subst e1; exact h0
  · split at h
    · split at h <;> simp only [Option.some.injEq, Prod.mk.injEq, reduceCtorEq] at h
      obtain ⟨e1, _⟩ := h; subst e1
      refine ⟨h0, fun c hc => byteOk_spec ?_⟩
      simp only [okConv, List.all_eq_true] at hb
      exact hb c hc
    · cases h
  · cases h

theorem okArr_ok {t : TypeId} {S0 S : Prop} {a b v : AV} {len e : Nat} (h : arrAddrV P t S0 a b = some (S, v)) (h0 : S0) (ha : arrT P t = some (len, e)) (hb : okArr len b = true) : S := by
  unfold arrAddrV at h
  split at h
  · rw [ha] at h
    simp only at h
    split at h <;> simp only [Option.some.injEq, Prod.mk.injEq, reduceCtorEq] at h
    obtain ⟨e1, _⟩ := h; subst e1
    exact ⟨h0, by simpa [okArr, intOk] using hb⟩
  · rw [ha] at h
    simp only at h
    split at h <;> simp only [Option.some.injEq, Prod.mk.injEq, reduceCtorEq] at h
    obtain ⟨e1, _⟩ := h; subst e1
    exact ⟨h0, by simpa [okArr, intOk] using hb⟩
  · cases h

theorem okIdx_ok {t : TypeId} {S0 S : Prop} {a b v : AV} {len e : Nat} (h : indexV P t S0 a b = some (S, v)) (h0 : S0) (ha : arrT P t = some (len, e)) (hb : okArr len b = true) : S := by
  unfold indexV at h
  split at h
  · rw [ha] at h
    simp only at h
    split at h
    · simp only [Option.map_eq_some_iff, Prod.mk.injEq] at h
      obtain ⟨_, _, e1, _⟩ := h
      subst e1
      exact ⟨h0, by simpa [okArr, intOk] using hb⟩
    · cases h
  · cases h

theorem okSlice_ok {t : TypeId} {S0 S : Prop} {lo hi : Option AV} {a v : AV} (h : sliceV P t S0 lo hi a = some (S, v)) (h0 : S0) (hb : okSlice lo hi a = true) : S := by
  unfold sliceV at h
  split at h
  · split at h
    · split at h <;> simp only [Option.some.injEq, Prod.mk.injEq, reduceCtorEq] at h
      obtain ⟨e1, _⟩ := h; subst e1
      simp only [okSlice, Bool.and_eq_true, decide_eq_true_eq] at hb
      exact ⟨h0, hb.1.1, hb.1.2, hb.2⟩
    · split at h <;> simp only [Option.some.injEq, Prod.mk.injEq, reduceCtorEq] at h
      obtain ⟨e1, _⟩ := h; subst e1
      simp only [okSlice, Bool.and_eq_true, decide_eq_true_eq] at hb
      exact ⟨h0, hb.1, hb.2⟩
    · split at h <;> simp only [Option.some.injEq, Prod.mk.injEq, reduceCtorEq] at h
      obtain ⟨e1, _⟩ := h; subst e1
      simp only [okSlice, Bool.and_eq_true, decide_eq_true_eq] at hb
      exact ⟨h0, hb.1, hb.2⟩
    · cases h
  · cases h

theorem gOk_spec {o : Option (Bool × AV)} {g : Bool} {v : AV} (h : o = some (g, v)) (hg : gOk o = true) : g = true := by subst h; exact hg

theorem okPv_ok {op : Op} {S : Prop} {v : AV} (h : pv P G H env σ op = some (S, v)) (hb : okPv P G env op = true) : S := by
  cases op <;> simp only [pv] at h <;> try (cases h; done)
  case move x => simp only [Option.map_eq_some_iff, Prod.mk.injEq] at h; obtain ⟨_, _, e1, _⟩ := h; subst e1; trivial
  case assign x => simp only [Option.map_eq_some_iff, Prod.mk.injEq] at h; obtain ⟨_, _, e1, _⟩ := h; subst e1; trivial
  case pick c x y =>
    simp only [okPv] at hb
    split at h
    · rename_i gc c' gx p gy q h1 h2 h3
      rw [h1, h2, h3] at hb
      simp only [Option.some.injEq, Prod.mk.injEq] at h
      obtain ⟨e1, _⟩ := h; subst e1
      simp only [Bool.and_eq_true] at hb
      refine ⟨hb.1, fun hc => ?_, fun hc => ?_⟩
      · subst hc; exact hb.2
      · subst hc; exact hb.2
    · cases h
  case load t x =>
    simp only [okPv] at hb
    split at h
    · rename_i g u h1
      simp only [Option.map_eq_some_iff, Prod.mk.injEq] at h
      obtain ⟨_, _, e1, _⟩ := h; subst e1
      exact gOk_spec h1 hb
    · cases h
  case nilCheck x =>
    simp only [okPv] at hb
    split at h <;> simp only [Option.some.injEq, Prod.mk.injEq, reduceCtorEq] at h <;> (rename_i h1; obtain ⟨e1, _⟩ := h; subst e1; exact gOk_spec h1 hb)
  case binOp op t x y yt =>
    simp only [okPv, Bool.and_eq_true] at hb
    split at h
    · rename_i g u g' u' h1 h2
      refine okBin_ok h ⟨gOk_spec h1 hb.1.1, gOk_spec h2 hb.1.2⟩ ?_
      have := hb.2
      rw [h2] at this
      exact this
    · cases h
  case unOp op t x =>
    simp only [okPv] at hb
    split at h
    · rename_i g u h1
      have hg := gOk_spec h1 hb
      unfold unV at h
      (repeat' split at h) <;> simp only [Option.some.injEq, Prod.mk.injEq, reduceCtorEq] at h
      obtain ⟨e1, _⟩ := h; subst e1; exact hg
    · cases h
  case convert src dst x =>
    simp only [okPv, Bool.and_eq_true] at hb
    split at h
    · rename_i g u h1
      have h2 := hb.2
      rw [h1] at h2
      exact okConv_ok h (gOk_spec h1 hb.1) h2
    · cases h
  case fieldAddr t x f =>
    simp only [okPv] at hb
    split at h
    · rename_i g u h1
      have hg := gOk_spec h1 hb
      unfold fieldAddrV at h
      (repeat' split at h) <;> simp only [Option.some.injEq, Prod.mk.injEq, reduceCtorEq] at h <;> (obtain ⟨e1, _⟩ := h; subst e1; exact hg)
    · cases h
  case field t x f =>
    simp only [okPv] at hb
    split at h
    · rename_i g u h1
      have hg := gOk_spec h1 hb
      unfold fieldV at h
      split at h
      · split at h
        · simp only [Option.map_eq_some_iff, Prod.mk.injEq] at h
          obtain ⟨_, _, e1, _⟩ := h
          subst e1
          exact hg
        · cases h
      · cases h
    · cases h
  case indexAddr t x i =>
    simp only [okPv, Bool.and_eq_true] at hb
    split at h
    · rename_i g u g' u' h1 h2
      cases ha : arrT P t with
      | none => rw [ha] at hb; exact absurd hb.2 (by simp)
      | some le =>
        obtain ⟨len, e⟩ := le
        have h3 := hb.2
        rw [ha, h2] at h3
        exact okArr_ok h ⟨gOk_spec h1 hb.1.1, gOk_spec h2 hb.1.2⟩ ha h3
    · cases h
  case index t x i =>
    simp only [okPv, Bool.and_eq_true] at hb
    split at h
    · rename_i g u g' u' h1 h2
      cases ha : arrT P t with
      | none => rw [ha] at hb; exact absurd hb.2 (by simp)
      | some le =>
        obtain ⟨len, e⟩ := le
        have h3 := hb.2
        rw [ha, h2] at h3
        exact okIdx_ok h ⟨gOk_spec h1 hb.1.1, gOk_spec h2 hb.1.2⟩ ha h3
    · cases h
  case extract x i =>
    split at h
    · simp only [Option.map_eq_some_iff, Prod.mk.injEq] at h
      obtain ⟨_, _, e1, _⟩ := h; subst e1; trivial
    · cases h
  case slice t x lo hi mx =>
    cases mx with
    | some m => simp only [pv] at h; cases h
    | none =>
      simp only [pv] at h
      simp only [okPv] at hb
      split at h
      · rename_i u p q h1 h2 h3
        cases lo with
        | none => simp at h2
        | some lo =>
          cases hi with
          | none => simp at h3
          | some hi =>
            simp only [Option.map_some, Option.some.injEq] at h2 h3
            rw [h1] at hb
            simp only [Option.bind_some, h2, h3] at hb
            exact okSlice_ok h trivial hb
      · rename_i u q h1 h2 h3
        cases lo with
        | some lo => simp at h2
        | none =>
          cases hi with
          | none => simp at h3
          | some hi =>
            simp only [Option.map_some, Option.some.injEq] at h3
            rw [h1] at hb
            simp only [Option.bind_some, Option.bind_none, h3] at hb
            exact okSlice_ok h trivial hb
      · rename_i u p h1 h2 h3
        cases hi with
        | some hi => simp at h3
        | none =>
          cases lo with
          | none => simp at h2
          | some lo =>
            simp only [Option.map_some, Option.some.injEq] at h2
            rw [h1] at hb
            simp only [Option.bind_some, Option.bind_none, h2] at hb
            exact okSlice_ok h trivial hb
      · cases h
  case build t parts =>
    split at h
    · simp only [Option.map_eq_some_iff, Prod.mk.injEq] at h
      obtain ⟨_, _, e1, _⟩ := h; subst e1; trivial
    · cases h
  case makeFunc fn first caps =>
    cases fn <;> simp only [pv] at h <;> try (cases h; done)
    case func f =>
      split at h
      · split at h
        · simp only [Option.map_eq_some_iff, Prod.mk.injEq] at h
          obtain ⟨_, _, e1, _⟩ := h; subst e1; trivial
        · cases h
      · split at h
        · simp only [Option.some.injEq, Prod.mk.injEq] at h
          obtain ⟨e1, _⟩ := h; subst e1; trivial
        · cases h
  case call c =>
    simp only [okPv] at hb
    split at h
    · rename_i b x t tl hcal hargs hts
      rw [hargs] at hb
      split at h
      · rename_i g u h1
        have hg : g = true := gOk_spec h1 (by simpa using hb)
        unfold builtinV at h
        (repeat' split at h) <;> simp only [Option.some.injEq, Prod.mk.injEq, reduceCtorEq] at h <;> (obtain ⟨e1, _⟩ := h; subst e1; exact hg)
      · cases h
    · rename_i b x y t tl hcal hargs hts
      rw [hargs] at hb
      simp only [List.all_cons, List.all_nil, Bool.and_true, Bool.and_eq_true] at hb
      split at h
      · rename_i g u g' u' h1 h2
        have hg : g = true ∧ g' = true := ⟨gOk_spec h1 hb.1, gOk_spec h2 hb.2⟩
        unfold builtinV at h
        (repeat' split at h) <;> simp only [Option.some.injEq, Prod.mk.injEq, reduceCtorEq] at h <;> (obtain ⟨e1, _⟩ := h; subst e1; exact hg)
      · cases h
    · cases h
end
end Go.Abs
