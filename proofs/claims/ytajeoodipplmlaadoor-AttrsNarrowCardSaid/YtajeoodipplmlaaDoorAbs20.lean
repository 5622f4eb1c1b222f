/-
  RUNNING CODE OVER ABSTRACT VALUES, 2: operations and regions. What the run says is what the model comes to, and which variables were written.
-/
import Derived.Test.YtajeoodipplmlaaDoorAbs19
set_option linter.all false
namespace Go.Abs
open Go Go.RowKit

/-- Variables that were not written. -/
def hOf (T : List Nat) : Nat → Bool := fun i => !T.contains i
theorem hOf_spec {T : List Nat} {i : Nat} : hOf T i = true ↔ i ∉ T := by simp [hOf]
theorem hOf_no {T : List Nat} {i : Nat} (h : i ∈ T) : hOf T i = false := by simp [hOf, h]
def uni (a b : List Nat) : List Nat := a.filter (fun i => !b.contains i) ++ b
theorem uni_spec {a b : List Nat} {i : Nat} : i ∈ uni a b ↔ i ∈ a ∨ i ∈ b := by
  simp only [uni, List.mem_append, List.mem_filter, Bool.not_eq_true', List.contains_eq_mem, decide_eq_false_iff_not]
  constructor
  · rintro (⟨h, _⟩ | h)
    · exact .inl h
    · exact .inr h
  · rintro (h | h)
    · by_cases hb : i ∈ b
      · exact .inr hb
      · exact .inl ⟨h, hb⟩
    · exact .inr h

abbrev Res := Option (AV × List Blk × RowsA × List Nat)
abbrev Rec := FuncId → List AV → List Blk → RowsA → Res

def RecOk (P : Program) (G : Nat → Option (List LV)) (rec : Rec) : Prop :=
  ∀ f args σ R v σ' R' T, rec f args σ R = some (v, σ', R', T) → ACK P G (hOf T) f args σ R fun a b c => a = v ∧ b = σ' ∧ c = R'

def ipure (P : Program) (G : Nat → Option (List LV)) (env : Env) (σ : List Blk) (R : RowsA) (op : Op) : Res :=
  match pv P G (fun _ => true) env σ op with
  | some (_, v) => cond (okPv P G env op) (some (v, σ, R, [])) none
  | none => none
def iapp (P : Program) (t : TypeId) (σ : List Blk) (R : RowsA) : AV → AV → Res
  | .l (.slice (.row i) sz e), .l (.slice _ sz' e') => match elemT P t, R[i]? with
    | some et, some (rt, rn) => cond (zeroOk P et && rt == et && rn == e.length && szT P et == sz && (sz' == sz || e'.isEmpty) && Nat.blt 0 sz && Nat.ble ((e.length + e'.length) * bytesT P et) maxBytes && Nat.ble (e.length + e'.length) maxLen)
        (some (.l (.slice (.row i) sz (e ++ e')), σ, R.set i (et, e.length + e'.length), [])) none
    | _, _ => none
  | .l (.slice .cap0 _ e), .l (.slice _ sz' e') => match elemT P t with
    | some et => cond (zeroOk P et && e.isEmpty && (sz' == szT P et || e'.isEmpty) && Nat.blt 0 (szT P et) && Nat.ble (e'.length * bytesT P et) maxBytes && Nat.ble e'.length maxLen)
        (some (.l (.slice (.row R.length) (szT P et) e'), σ, R ++ [(et, e'.length)], [])) none
    | none => none
  | _, _ => none
def ilit (P : Program) (len : Nat) (σ : List Blk) (R : RowsA) : Option TypeId → Option (List (Nat × AV)) → Res
  | some et, some vs => match partsSh (szT P et) 0 vs with
    | some es => cond (es.length == len && Nat.blt len 1000 && Nat.blt 0 (szT P et) && Nat.blt (szT P et) 1000)
        (match es with
        | [] => some (.l (.slice .cap0 (szT P et) []), σ, R, [])
        | e :: es => cond (zeroOk P et) (some (.l (.slice (.row R.length) (szT P et) (e :: es)), σ, R ++ [(et, len)], [])) none) none
    | none => match partsV (szT P et) 0 vs with
      | some cs => cond (vs.length == len && Nat.blt 0 len && Nat.blt len 1000 && Nat.blt 0 (szT P et) && Nat.blt (szT P et) 1000 && zeroOk P et) (some (.l (.vsl σ.length 0 (szT P et) len), σ ++ [⟨et, cs⟩], R, [])) none
      | none => none
  | _, _ => none
def ibin (P : Program) (G : Nat → Option (List LV)) (env : Env) (σ : List Blk) (R : RowsA) (op : BinOp) (t : TypeId) (x y : Operand) (yt : TypeId) : Option AV → Option AV → Res
  | some (.l (.slice _ _ e)), some (.l (.slice .cap0 _ _)) => (match y, P.underlying t, op with
      | .const _, some (.slice _), .eql => cond e.isEmpty none (some (.l (.bool false), σ, R, []))
      | .const _, some (.slice _), .neq => cond e.isEmpty none (some (.l (.bool true), σ, R, []))
      | _, _, _ => none)
  | _, _ => ipure P G env σ R (.binOp op t x y yt)
def iix (P : Program) (σ : List Blk) (R : RowsA) (t : TypeId) : Option AV → Option AV → Res
  | some (.l (.slice _ sz e)), some (.l (.int _ n)) => (match elemT P t, e[n.toNat]? with
      | some et, some c => cond (szT P et == sz && Nat.blt 0 sz && decide (0 ≤ n)) (some (.l (.eptr c 0), σ, R, [])) none
      | _, _ => none)
  | some (.l (.vsl i off sz len)), some (.l (.int _ n)) => (match elemT P t with
      | some et => cond (szT P et == sz && Nat.blt 0 sz && decide (0 ≤ n) && Nat.blt n.toNat len) (some (.l (.ptr i (off + n.toNat * sz)), σ, R, [])) none
      | none => none)
  | some a, some b => match arrAddrV P t True a b, arrT P t with
    | some (_, v), some (len, _) => cond (okArr len b) (some (v, σ, R, [])) none
    | _, _ => none
  | _, _ => none

def iaop (P : Program) (G : Nat → Option (List LV)) (rec : Rec) (env : Env) (σ : List Blk) (R : RowsA) : Op → Res
  | .alloc t => match zeroA P t with
    | some cs => some (.l (.ptr σ.length 0), σ ++ [⟨t, cs⟩], R, [])
    | none => none
  | .box t x => match (opA G env x).bind AV.cellsL with
    | some cs => cond (cs.length == szT P t) (some (.l (.ptr σ.length 0), σ ++ [⟨t, cs⟩], R, [])) none
    | none => none
  | .store t x y => match opA G env x, (opA G env y).bind AV.cellsL with
    | some (.l (.ptr i off)), some vs => (match σ[i]? with
      | some B => cond (Nat.blt 0 vs.length && vs.length == szT P t && Nat.ble (off + vs.length) B.cells.length) (some (.undef, σ.set i ⟨B.T, spliceL B.cells off vs⟩, R, [i])) none
      | none => none)
    | _, _ => none
  | .buildSlice t len parts => ilit P len σ R (elemT P t) (opParts G env parts.toList)
  | .indexAddr t x i => iix P σ R t (opA G env x) (opA G env i)
  | .binOp op t x y yt => ibin P G env σ R op t x y yt (opA G env x) (opA G env y)
  | .call c => match c.callee with
    | .value x => (match opA G env x, opAll G env c.args.toList with
      | some (.l (.fn f caps)), some vs => rec f (vs ++ caps.map fun c => .l (.ptr c.1 c.2)) σ R
      | some (.l (.mfn f i o)), some vs => rec f (.l (.ptr i o) :: vs) σ R
      | _, _ => none)
    | .builtin .append => (match c.args.toList.map (opA G env), c.argTypes.toList with
      | [some s, some x], [t, t'] => cond (t == t') (iapp P t σ R s x) none
      | _, _ => none)
    | _ => ipure P G env σ R (.call c)
  | op => ipure P G env σ R op

section
variable {P : Program} {G : Nat → Option (List LV)} {H He : Nat → Bool} {rec : Rec} {env : Env} {σ σ' : List Blk} {R R' : RowsA} {v : AV} {T : List Nat}

def IsR (v : AV) (σ' : List Blk) (R' : RowsA) : AV → List Blk → RowsA → Prop := fun a b c => a = v ∧ b = σ' ∧ c = R'
theorem IsR.here : IsR v σ R v σ R := ⟨rfl, rfl, rfl⟩

theorem cond_some {α : Type} {b : Bool} {x : α} {o : Option α} (h : cond b o none = some x) : b = true ∧ o = some x := by
  cases b
  · cases h
  · exact ⟨rfl, h⟩
theorem cond_none {α : Type} {b : Bool} {x : α} {o : Option α} (h : cond b none o = some x) : b = false ∧ o = some x := by
  cases b
  · exact ⟨rfl, h⟩
  · cases h

theorem ipure_ok {op : Op} (h : ipure P G env σ R op = some (v, σ', R', T)) : ∃ S, pv P G (fun _ => true) env σ op = some (S, v) ∧ S ∧ σ' = σ ∧ R' = R ∧ T = [] := by
  unfold ipure at h
  cases hp : pv P G (fun _ => true) env σ op with
  | none => rw [hp] at h; cases h
  | some Sv =>
    obtain ⟨S, u⟩ := Sv
    rw [hp] at h
    simp only at h
    obtain ⟨h1, h2⟩ := cond_some h
    simp only [Option.some.injEq, Prod.mk.injEq] at h2
    obtain ⟨rfl, rfl, rfl, rfl⟩ := h2
    exact ⟨S, rfl, okPv_ok hp h1, rfl, rfl, rfl⟩

theorem iapp_ok {t : TypeId} {s x : AV} (h : iapp P t σ R s x = some (v, σ', R', T)) : appendA P t σ R (IsR v σ' R') s x := by
  unfold iapp at h
  split at h
  · split at h
    · rename_i i sz e own sz' e' et rt rn het hR
      obtain ⟨h1, h2⟩ := cond_some h
      simp only [Option.some.injEq, Prod.mk.injEq] at h2
      obtain ⟨rfl, rfl, rfl, rfl⟩ := h2
      simp only [Bool.and_eq_true, Bool.or_eq_true, beq_iff_eq, Nat.blt_eq, Nat.ble_eq, List.isEmpty_iff] at h1
      obtain ⟨⟨⟨⟨⟨⟨⟨a1, a2⟩, a3⟩, a4⟩, a5⟩, a6⟩, a7⟩, a8⟩ := h1
      simp only [appendA, het]
      refine ⟨a1, ?_, a4, a5, a6, a7, a8, IsR.here⟩
      rw [hR, a2, a3]
    · cases h
  · split at h
    · rename_i z e own sz' e' et het
      obtain ⟨h1, h2⟩ := cond_some h
      simp only [Option.some.injEq, Prod.mk.injEq] at h2
      obtain ⟨rfl, rfl, rfl, rfl⟩ := h2
      simp only [Bool.and_eq_true, Bool.or_eq_true, beq_iff_eq, Nat.blt_eq, Nat.ble_eq, List.isEmpty_iff] at h1
      obtain ⟨⟨⟨⟨⟨a1, a2⟩, a3⟩, a4⟩, a5⟩, a6⟩ := h1
      simp only [appendA, het]
      exact ⟨a1, a2, a3, a4, a5, a6, IsR.here⟩
    · cases h
  · cases h

theorem ack_held {f : FuncId} {args : List AV} {K : AV → List Blk → RowsA → Prop} {H H' : Nat → Bool} (h : ACK P G H f args σ R K) (hH : ∀ i, H' i = true → H i = true) : ACK P G H' f args σ R K :=
  ⟨h.1, fun X argsV hI hl ha => (h.2 X argsV hI hl ha).mono fun e w ⟨res, r, σ', R', X', h1, h2, h3, h4, h5, h6, h7⟩ => ⟨res, r, σ', R', X', h1, h2, h3, h4, fun i b hb hi => h5 i b hb (hH i hi), h6, h7⟩⟩

theorem binK_other {op : BinOp} {t : TypeId} {y : Operand} {K : AV → List Blk → RowsA → Prop} {ux uy : Option (Bool × AV)} {a b : Option AV} (h : ∀ own sz e z e', a = some (.l (.slice own sz e)) → b = some (.l (.slice .cap0 z e')) → False) :
    binK P op t y σ R K ux uy a b = binF P op t σ R K ux uy := by
  unfold binK
  split <;> first | rfl | exact (h _ _ _ _ _ rfl rfl).elim

theorem iaop_ok (hrec : RecOk P G rec) {op : Op} (h : iaop P G rec env σ R op = some (v, σ', R', T)) (hT : ∀ i ∈ T, He i = false) : aop P G (fun _ => true) He env σ R (IsR v σ' R') op := by
  have pure' : ∀ op, ipure P G env σ R op = some (v, σ', R', T) → (match pv P G (fun _ => true) env σ op with | some (S, v') => S ∧ IsR v σ' R' v' σ R | none => False) := fun op h => by
    obtain ⟨S, h1, h2, rfl, rfl, _⟩ := ipure_ok h
    rw [h1]
    exact ⟨h2, IsR.here⟩
  cases op <;> simp only [iaop] at h <;> try (exact pure' _ h)
  case alloc t =>
    simp only [aop]
    split at h
    · rename_i cs hz
      simp only [Option.some.injEq, Prod.mk.injEq] at h
      obtain ⟨rfl, rfl, rfl, rfl⟩ := h
      simp only [hz]
      exact IsR.here
    · cases h
  case box t x =>
    simp only [aop]
    split at h
    · rename_i cs hz
      obtain ⟨h1, h2⟩ := cond_some h
      simp only [Option.some.injEq, Prod.mk.injEq] at h2
      obtain ⟨rfl, rfl, rfl, rfl⟩ := h2
      simp only [hz]
      exact ⟨by simpa using h1, IsR.here⟩
    · cases h
  case store t x y =>
    simp only [aop]
    split at h
    · rename_i i off vs hx hy
      split at h
      · rename_i B hB
        obtain ⟨h1, h2⟩ := cond_some h
        simp only [Option.some.injEq, Prod.mk.injEq] at h2
        obtain ⟨rfl, rfl, rfl, rfl⟩ := h2
        simp only [Bool.and_eq_true, beq_iff_eq, Nat.blt_eq, Nat.ble_eq] at h1
        simp only [hx, hy, hB]
        exact ⟨hT i (by simp), h1.1.1, h1.1.2, h1.2, IsR.here⟩
      · cases h
    · cases h
  case buildSlice t len parts =>
    simp only [aop]
    unfold ilit at h
    split at h
    · rename_i et vs het hvs
      split at h
      · rename_i es hes
        obtain ⟨h1, h2⟩ := cond_some h
        simp only [Bool.and_eq_true, beq_iff_eq, Nat.blt_eq] at h1
        simp only [het, hvs, hes]
        refine ⟨h1.1.1.1, h1.1.1.2, h1.1.2, h1.2, ?_⟩
        split at h2
        · simp only [Option.some.injEq, Prod.mk.injEq] at h2
          obtain ⟨rfl, rfl, rfl, rfl⟩ := h2
          exact IsR.here
        · obtain ⟨h3, h4⟩ := cond_some h2
          simp only [Option.some.injEq, Prod.mk.injEq] at h4
          obtain ⟨rfl, rfl, rfl, rfl⟩ := h4
          exact ⟨h3, IsR.here⟩
      · rename_i hes
        split at h
        · rename_i cs hcs
          obtain ⟨h1, h2⟩ := cond_some h
          simp only [Option.some.injEq, Prod.mk.injEq] at h2
          obtain ⟨rfl, rfl, rfl, rfl⟩ := h2
          simp only [Bool.and_eq_true, beq_iff_eq, Nat.blt_eq] at h1
          simp only [het, hvs, hes, hcs]
          exact ⟨h1.1.1.1.1.1, h1.1.1.1.1.2, h1.1.1.1.2, h1.1.1.2, h1.1.2, h1.2, IsR.here⟩
        · cases h
    · cases h
  case indexAddr t x i =>
    rw [aop_indexAddr]
    unfold iix at h
    split at h
    · rename_i own sz e k n hx hi
      split at h
      · rename_i et c het hc
        obtain ⟨h1, h2⟩ := cond_some h
        simp only [Option.some.injEq, Prod.mk.injEq] at h2
        obtain ⟨rfl, rfl, rfl, rfl⟩ := h2
        simp only [Bool.and_eq_true, beq_iff_eq, Nat.blt_eq, decide_eq_true_eq] at h1
        obtain ⟨hl, hcc⟩ := List.getElem?_eq_some_iff.1 hc
        rw [hx, hi, indexK_slice]
        simp only [het]
        exact ⟨h1.1.1, h1.1.2, ⟨h1.2, hl⟩, by rw [hcc]; exact IsR.here⟩
      · cases h
    · rename_i j off sz len k n hx hi
      split at h
      · rename_i et het
        obtain ⟨h1, h2⟩ := cond_some h
        simp only [Option.some.injEq, Prod.mk.injEq] at h2
        obtain ⟨rfl, rfl, rfl, rfl⟩ := h2
        simp only [Bool.and_eq_true, beq_iff_eq, Nat.blt_eq, decide_eq_true_eq] at h1
        rw [hx, hi, indexK_vsl]
        simp only [het]
        exact ⟨h1.1.1.1, h1.1.1.2, ⟨h1.1.2, h1.2⟩, IsR.here⟩
      · cases h
    · rename_i a b hno hno2 hx hi
      split at h
      · rename_i S u len et ha hl
        obtain ⟨h1, h2⟩ := cond_some h
        simp only [Option.some.injEq, Prod.mk.injEq] at h2
        obtain ⟨rfl, rfl, rfl, rfl⟩ := h2
        have hS := okArr_ok ha trivial hl h1
        have hfin : indexK P t σ R (IsR u σ R) (some a) (some b) = fin (arrAddrV P t True a b) σ R (IsR u σ R) := by
          unfold indexK
          split
          · rename_i own sz e k n q1 q2
            simp only [Option.some.injEq] at q1 q2
            exact (hno _ _ _ _ _ (by rw [q1]) (by rw [q2])).elim
          · rename_i j off sz len k n q1 q2
            simp only [Option.some.injEq] at q1 q2
            exact (hno2 _ _ _ _ _ _ (by rw [q1]) (by rw [q2])).elim
          · rename_i a' b' _ _ q1 q2
            simp only [Option.some.injEq] at q1 q2
            subst q1 q2
            rfl
          · rename_i q
            exact (q _ _ rfl rfl).elim
        rw [hx, hi, hfin, ha]
        exact ⟨hS, IsR.here⟩
      · cases h
    · cases h
  case binOp op t x y yt =>
    unfold ibin at h
    split at h
    · rename_i own sz e z e' hx hy
      split at h
      · rename_i c te hu
        obtain ⟨h1, h2⟩ := cond_none h
        simp only [Option.some.injEq, Prod.mk.injEq] at h2
        obtain ⟨rfl, rfl, rfl, rfl⟩ := h2
        rw [aop_binOp, hx, hy, binK_nil]
        simp only [hu]
        exact ⟨fun he => (by rw [he] at h1; cases h1), IsR.here⟩
      · rename_i c te hu
        obtain ⟨h1, h2⟩ := cond_none h
        simp only [Option.some.injEq, Prod.mk.injEq] at h2
        obtain ⟨rfl, rfl, rfl, rfl⟩ := h2
        rw [aop_binOp, hx, hy, binK_nil]
        simp only [hu]
        exact ⟨fun he => (by rw [he] at h1; cases h1), IsR.here⟩
      · cases h
    · rename_i hno
      have hF : (match pv P G (fun _ => true) env σ (.binOp op t x y yt) with | some (S, u) => S ∧ IsR v σ' R' u σ R | none => False) = binF P op t σ R (IsR v σ' R') (opU G env x) (opU G env y) := by
        simp only [pv]
        cases opU G env x with
        | none => rfl
        | some a => cases opU G env y <;> rfl
      rw [aop_binOp, binK_other hno, ← hF]
      exact pure' _ h
  case call c =>
    obtain ⟨callee, cargs, ts⟩ := c
    simp only at h
    cases callee with
    | value x =>
      simp only at h
      rw [aop_callV]
      split at h
      · rename_i f caps vs hx hvs
        rw [hx, hvs, callK_fn]
        refine ack_held (hrec _ _ _ _ _ _ _ _ h) fun i hi => hOf_spec.2 fun hm => ?_
        rw [hT i hm] at hi
        cases hi
      · rename_i f j o vs hx hvs
        rw [hx, hvs, callK_mfn]
        refine ack_held (hrec _ _ _ _ _ _ _ _ h) fun i hi => hOf_spec.2 fun hm => ?_
        rw [hT i hm] at hi
        cases hi
      · cases h
    | builtin b =>
      cases b with
      | append =>
        simp only at h
        split at h
        · rename_i s x t t' hargs hts
          obtain ⟨h1, h2⟩ := cond_some h
          simp only [aop, hargs, hts]
          exact ⟨by simpa using h1, iapp_ok h2⟩
        · cases h
      | _ => exact pure' _ h
    | _ => exact pure' _ h
end

/-! ### A step, with its guard -/
def istep (P : Program) (G : Nat → Option (List LV)) (rec : Rec) (ops : Array Oper) (env : Env) (σ : List Blk) (R : RowsA) (o : Oper) : Res :=
  match o.guard with
  | none => iaop P G rec env σ R o.op
  | some (j, want) => match gval ops env j want with
    | none => none
    | some false => some (.ifb false (.l (.bool false)), σ, R, [])
    | some true => match pv P G (fun _ => true) env σ o.op with
      | some (_, v) => (match mkIfb true v with
        | some u => cond (okPv P G env o.op) (some (u, σ, R, [])) none
        | none => none)
      | none => iaop P G rec env σ R o.op

section
variable {P : Program} {G : Nat → Option (List LV)} {H He : Nat → Bool} {rec : Rec} {ops : Array Oper} {env : Env} {σ σ' : List Blk} {R R' : RowsA} {v : AV} {T : List Nat}
theorem istep_ok (hrec : RecOk P G rec) {o : Oper} (h : istep P G rec ops env σ R o = some (v, σ', R', T)) (hT : ∀ i ∈ T, He i = false) (hgf : ∀ j w, o.guard = some (j, w) → gval ops env j w ≠ some false) : astep P G (fun _ => true) He ops env σ R o (IsR v σ' R') := by
  unfold istep at h
  unfold astep
  cases hg : o.guard with
  | none => rw [hg] at h; exact iaop_ok hrec h hT
  | some jw =>
    obtain ⟨j, want⟩ := jw
    rw [hg] at h
    simp only at h ⊢
    cases hv : gval ops env j want with
    | none => rw [hv] at h; cases h
    | some g =>
      cases g with
      | false => exact absurd hv (hgf j want hg)
      | true =>
        rw [hv] at h
        simp only at h ⊢
        cases hp : pv P G (fun _ => true) env σ o.op with
        | some Sv =>
          obtain ⟨S, u⟩ := Sv
          rw [hp] at h
          simp only at h ⊢
          cases hm : mkIfb true u with
          | none => rw [hm] at h; cases h
          | some q =>
            rw [hm] at h
            simp only at h ⊢
            obtain ⟨h1, h2⟩ := cond_some h
            simp only [Option.some.injEq, Prod.mk.injEq] at h2
            obtain ⟨rfl, rfl, rfl, rfl⟩ := h2
            exact ⟨fun _ => okPv_ok hp h1, IsR.here⟩
        | none =>
          rw [hp] at h
          simp only at h ⊢
          exact ⟨fun _ => aop_mono (fun _ _ _ h => .inl h) (iaop_ok hrec h hT), fun h => by cases h⟩
theorem istep_sound {X : Ctx} {n : Nat} {a : Act} (hrec : RecOk P G rec) (hI : Inv G X σ R) (he : EnvOk X n env a) {i : Nat} {o : Oper} (ho : ops[i]? = some o) (h : istep P G rec ops env σ R o = some (v, σ', R', T)) (hT : ∀ i ∈ T, He i = false)
    {Kc : Act → World → Prop} {Q : Exit → Act → World → Prop} (hK : ∀ v' r σ2 R2 X', IsR v σ' R' v' σ2 R2 → Evo X X' → HeldEq He X X' → Inv G X' σ2 R2 → RepV X' v' r → Kc (a.put o.dst r) X'.w) : wpOp P ops Q i Kc a X.w := by
  by_cases hgf : ∀ j w, o.guard = some (j, w) → gval ops env j w ≠ some false
  · exact astep_sound (He := He) hI he ho (istep_ok hrec h hT hgf) hK
  · obtain ⟨j, hgf⟩ := Classical.not_forall.1 hgf
    obtain ⟨w, hgf⟩ := Classical.not_forall.1 hgf
    obtain ⟨hg, hgf⟩ := Classical.not_imp.1 hgf
    have hv := Classical.not_not.1 hgf
    unfold istep at h
    simp only [hg, hv, Option.some.injEq, Prod.mk.injEq] at h
    obtain ⟨rfl, rfl, rfl, rfl⟩ := h
    unfold wpOp
    rw [ho]
    have hw : Region.wanted o (yielded ops a.tmps) = false := by simp only [Region.wanted, hg]; exact gval_sound he hv
    simp only [hw]
    exact hK _ _ _ _ X IsR.here (Evo.refl hI) HeldEq.refl' hI (no_undef rfl)
end

/-! ### Regions in their order -/
def iops (P : Program) (G : Nat → Option (List LV)) (rec : Rec) (ops : Array Oper) : List Oper → Env → List Blk → RowsA → Option (Env × List Blk × RowsA × List Nat)
  | [], env, σ, R => some (env, σ, R, [])
  | o :: rest, env, σ, R => match istep P G rec ops env σ R o with
    | some (v, σ', R', T) => (match iops P G rec ops rest (envPut o.dst v env) σ' R' with
      | some (e, s, r, T') => some (e, s, r, uni T T')
      | none => none)
    | none => none

theorem HeldEq.trans {G : Nat → Option (List LV)} {H : Nat → Bool} {X X' X'' : Ctx} {σ : List Blk} {R : RowsA} (hE : Evo X X') (h : HeldEq H X X') (h' : HeldEq H X' X'') : HeldEq H X X'' :=
  fun i b hb hi => (h' i b (hE.muGet hb) hi).trans (h i b hb hi)
theorem HeldEq.sub {H H' : Nat → Bool} {X X' : Ctx} (h : HeldEq H X X') (hs : ∀ i, H' i = true → H i = true) : HeldEq H' X X' := fun i b hb hi => h i b hb (hs i hi)

section
variable {P : Program} {G : Nat → Option (List LV)} {rec : Rec} {ops : Array Oper} {n : Nat}

theorem iops_ok (hrec : RecOk P G rec) (hd : dstsOk n ops = true) {Q : Exit → Act → World → Prop} :
    ∀ (l : List Oper) (k : Nat) (X : Ctx) (σ : List Blk) (R : RowsA) (env : Env) (a : Act) (env' : Env) (σ' : List Blk) (R' : RowsA) (T : List Nat), (∀ j, j < l.length → l[j]? = ops[k + j]?) → Inv G X σ R → EnvOk X n env a →
      iops P G rec ops l env σ R = some (env', σ', R', T) →
      (∀ X' a', Evo X X' → HeldEq (hOf T) X X' → Inv G X' σ' R' → EnvOk X' n env' a' → Q .normal a' X'.w) → wpOps P ops Q (List.range' k l.length) a X.w
  | [], k, X, σ, R, env, a, env', σ', R', T, _, hI, he, h, hQ => by
    simp only [iops, Option.some.injEq, Prod.mk.injEq] at h
    obtain ⟨rfl, rfl, rfl, rfl⟩ := h
    simp only [List.length_nil, List.range'_zero, wpOps]
    exact hQ X a (Evo.refl hI) HeldEq.refl' hI he
  | o :: l, k, X, σ, R, env, a, env', σ', R', T, hl, hI, he, h, hQ => by
    have ho : ops[k]? = some o := by
      have := hl 0 (by simp)
      simpa using this.symm
    simp only [iops] at h
    split at h
    · rename_i v σ1 R1 T1 h1
      split at h
      · rename_i e s r T2 h2
        simp only [Option.some.injEq, Prod.mk.injEq] at h
        obtain ⟨rfl, rfl, rfl, rfl⟩ := h
        simp only [List.length_cons, List.range'_succ, wpOps_cons]
        refine istep_sound (He := hOf (uni T1 T2)) hrec hI he ho h1 (fun i hi => hOf_no (uni_spec.2 (.inl hi))) (fun v' r' σ2 R2 X' hK hE hH hI' hr => ?_)
        obtain ⟨rfl, rfl, rfl⟩ := hK
        exact iops_ok hrec hd l (k + 1) X' _ _ _ _ _ _ _ _ (fun j hj => by
          have := hl (j + 1) (by simpa using hj)
          rw [show k + 1 + j = k + (j + 1) by omega]
          simpa using this) hI' (he.put hI hE (dstsOk_spec hd ho) hr) h2 (fun X'' a'' k1 k2 k3 k4 =>
            hQ X'' a'' (hE.trans hI k1) (HeldEq.trans (G := G) (σ := σ) (R := R) hE hH (k2.sub fun i hi => hOf_spec.2 fun hm => (hOf_spec.1 hi) (uni_spec.2 (.inr hm)))) k3 k4)
      · cases h
    · cases h
end
end Go.Abs
