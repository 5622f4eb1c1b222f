/-
  RULES FOR RECKONING, 2: what may be taken for what, closed values, appends, guards, plans, numbers in their range.
-/
import Derived.Test.YtajeoodipplmlaaDoorAbs17
set_option linter.all false
namespace Go.Abs
open Go Go.RowKit

section
variable {P : Program} {G : Nat → Option (List LV)} {H Hl He : Nat → Bool} {ops : Array Oper} {env : Env} {σ : List Blk} {R : RowsA} {K : AV → List Blk → RowsA → Prop} {Ke : Env → List Blk → RowsA → Prop} {Q : Exit → Env → List Blk → RowsA → Prop}

@[go_sem] theorem wk_self (x : LV) : x.wk x = True := eq_true x.wk_rfl
@[go_sem] theorem wk_int (k k' : IntKind) (a b : Int) : (LV.int k a).wk (.int k' b) = (k = k' ∧ a = b) := by simp [LV.wk]
@[go_sem] theorem wk_bool (a b : Bool) : (LV.bool a).wk (.bool b) = (a = b) := by simp [LV.wk]
@[go_sem] theorem wk_str (a b : List Int) : (LV.str a).wk (.str b) = (a = b) := by simp [LV.wk]
@[go_sem] theorem wk_ptr (a b c d : Nat) : (LV.ptr a b).wk (.ptr c d) = (a = c ∧ b = d) := by simp [LV.wk]
@[go_sem] theorem wk_vsl (a b c d e f g h : Nat) : (LV.vsl a b c d).wk (.vsl e f g h) = (a = e ∧ b = f ∧ c = g ∧ d = h) := by simp [LV.wk]
@[go_sem] theorem wk_mfn (f g : FuncId) (i o j p : Nat) : (LV.mfn f i o).wk (.mfn g j p) = (f = g ∧ i = j ∧ o = p) := by simp [LV.wk]
@[go_sem] theorem wk_fn (f g : FuncId) (a b : List (Nat × Nat)) : (LV.fn f a).wk (.fn g b) = (f = g ∧ a = b) := by simp [LV.wk]
@[go_sem] theorem wk_shared (s s' : Nat) (e e' : List (List LV)) : (LV.slice .shared s e).wk (.slice .shared s' e') = (s = s' ∧ e = e') := by simp [LV.wk]
@[go_sem] theorem wk_cap0 (s s' : Nat) (e e' : List (List LV)) : (LV.slice .cap0 s e).wk (.slice .shared s' e') = (e' = []) := by simp [LV.wk]
@[go_sem] theorem wk_row (i s s' : Nat) (e e' : List (List LV)) : (LV.slice (.row i) s e).wk (.slice .shared s' e') = (s = s' ∧ e = e') := by simp [LV.wk]
@[go_sem] theorem wk_cap0_cap0 (s s' : Nat) (e e' : List (List LV)) : (LV.slice .cap0 s e).wk (.slice .cap0 s' e') = (s = s' ∧ e = e') := by simp [LV.wk]
@[go_sem] theorem wk_row_row (i i' s s' : Nat) (e e' : List (List LV)) : (LV.slice (.row i) s e).wk (.slice (.row i') s' e') = (i = i' ∧ s = s' ∧ e = e') := by simp [LV.wk]
@[go_sem] theorem wkL_self (x : List LV) : wkL x x = True := eq_true (wkL_rfl x)
@[go_sem] theorem wkL_nil : wkL [] [] = True := rfl
@[go_sem] theorem wkL_cons (x y : LV) (xs ys : List LV) : wkL (x :: xs) (y :: ys) = (x.wk y ∧ wkL xs ys) := rfl
@[go_sem] theorem awk_l (x y : LV) : (AV.l x).wk (.l y) = x.wk y := rfl
@[go_sem] theorem awk_agg (x y : List LV) : (AV.agg x).wk (.agg y) = wkL x y := rfl
@[go_sem] theorem awk_undef : (AV.undef).wk .undef = True := rfl
@[go_sem] theorem awk_tup (x y : List AV) : (AV.tup x).wk (.tup y) = wkT x y := rfl
@[go_sem] theorem awk1_l (x y : LV) : (AV.l x).wk1 (.l y) = x.wk y := rfl
@[go_sem] theorem awk1_agg (x y : List LV) : (AV.agg x).wk1 (.agg y) = wkL x y := rfl
@[go_sem] theorem awk1_undef : (AV.undef).wk1 .undef = True := rfl
@[go_sem] theorem wkT_nil : wkT [] [] = True := rfl
@[go_sem] theorem wkT_cons (x y : AV) (xs ys : List AV) : wkT (x :: xs) (y :: ys) = (x.wk1 y ∧ wkT xs ys) := rfl
@[go_sem] theorem wkS_nil (ks : List Nat) : wkS ks [] [] = True := rfl
@[go_sem] theorem wkS_cons (ks : List Nat) (B B' : Blk) (σ σ' : List Blk) : wkS ks (B :: σ) (B' :: σ') = (B.T = B'.T ∧ wkL B.cells (B'.cells.map (·.rnR ks)) ∧ wkS ks σ σ') := rfl

@[go_sem] theorem rnR_int (ks : List Nat) (k : IntKind) (n : Int) : (LV.int k n).rnR ks = .int k n := rfl
@[go_sem] theorem rnR_bool (ks : List Nat) (b : Bool) : (LV.bool b).rnR ks = .bool b := rfl
@[go_sem] theorem rnR_str (ks : List Nat) (l : List Int) : (LV.str l).rnR ks = .str l := rfl
@[go_sem] theorem rnR_nilp (ks : List Nat) : LV.nilp.rnR ks = .nilp := rfl
@[go_sem] theorem rnR_ptr (ks : List Nat) (i o : Nat) : (LV.ptr i o).rnR ks = .ptr i o := rfl
@[go_sem] theorem rnR_eptr (ks : List Nat) (c : List LV) (o : Nat) : (LV.eptr c o).rnR ks = .eptr c o := rfl
@[go_sem] theorem rnR_vsl (ks : List Nat) (a b c d : Nat) : (LV.vsl a b c d).rnR ks = .vsl a b c d := rfl
@[go_sem] theorem rnR_mfn (ks : List Nat) (f : FuncId) (i o : Nat) : (LV.mfn f i o).rnR ks = .mfn f i o := rfl
@[go_sem] theorem rnR_fn (ks : List Nat) (f : FuncId) (c : List (Nat × Nat)) : (LV.fn f c).rnR ks = .fn f c := rfl
@[go_sem] theorem rnR_shared (ks : List Nat) (s : Nat) (e : List (List LV)) : (LV.slice .shared s e).rnR ks = .slice .shared s e := rfl
@[go_sem] theorem rnR_cap0 (ks : List Nat) (s : Nat) (e : List (List LV)) : (LV.slice .cap0 s e).rnR ks = .slice .cap0 s e := rfl
@[go_sem] theorem rnR_row (ks : List Nat) (i s : Nat) (e : List (List LV)) : (LV.slice (.row i) s e).rnR ks = .slice (.row ((ks[i]?).getD 0)) s e := rfl
@[go_sem] theorem arnR_l (ks : List Nat) (x : LV) : (AV.l x).rnR ks = .l (x.rnR ks) := rfl
@[go_sem] theorem arnR_agg (ks : List Nat) (x : List LV) : (AV.agg x).rnR ks = .agg (x.map (·.rnR ks)) := rfl
@[go_sem] theorem arnR_undef (ks : List Nat) : AV.undef.rnR ks = .undef := rfl
@[go_sem] theorem arnR_tup (ks : List Nat) (x : List AV) : (AV.tup x).rnR ks = .tup (x.map (·.rnR1 ks)) := rfl
@[go_sem] theorem arnR1_l (ks : List Nat) (x : LV) : (AV.l x).rnR1 ks = .l (x.rnR ks) := rfl
@[go_sem] theorem arnR1_agg (ks : List Nat) (x : List LV) : (AV.agg x).rnR1 ks = .agg (x.map (·.rnR ks)) := rfl
@[go_sem] theorem arnR1_undef (ks : List Nat) : AV.undef.rnR1 ks = .undef := rfl

@[go_sem] theorem rn_int (is ks : List Nat) (n m : Nat) (k : IntKind) (a : Int) : (LV.int k a).rn is ks n m = .int k a := rfl
@[go_sem] theorem rn_bool (is ks : List Nat) (n m : Nat) (b : Bool) : (LV.bool b).rn is ks n m = .bool b := rfl
@[go_sem] theorem rn_str (is ks : List Nat) (n m : Nat) (l : List Int) : (LV.str l).rn is ks n m = .str l := rfl
@[go_sem] theorem rn_nilp (is ks : List Nat) (n m : Nat) : LV.nilp.rn is ks n m = .nilp := rfl
@[go_sem] theorem rn_ptr (is ks : List Nat) (n m i o : Nat) : (LV.ptr i o).rn is ks n m = .ptr (posOf is n i) o := rfl
@[go_sem] theorem rn_eptr (is ks : List Nat) (n m : Nat) (c : List LV) (o : Nat) : (LV.eptr c o).rn is ks n m = .eptr c o := rfl
@[go_sem] theorem rn_vsl (is ks : List Nat) (n m a b c d : Nat) : (LV.vsl a b c d).rn is ks n m = .vsl (posOf is n a) b c d := rfl
@[go_sem] theorem rn_mfn (is ks : List Nat) (n m : Nat) (f : FuncId) (i o : Nat) : (LV.mfn f i o).rn is ks n m = .mfn f (posOf is n i) o := rfl
@[go_sem] theorem rn_fn (is ks : List Nat) (n m : Nat) (f : FuncId) (c : List (Nat × Nat)) : (LV.fn f c).rn is ks n m = .fn f (c.map fun c => (posOf is n c.1, c.2)) := rfl
@[go_sem] theorem rn_shared (is ks : List Nat) (n m s : Nat) (e : List (List LV)) : (LV.slice .shared s e).rn is ks n m = .slice .shared s e := rfl
@[go_sem] theorem rn_cap0 (is ks : List Nat) (n m s : Nat) (e : List (List LV)) : (LV.slice .cap0 s e).rn is ks n m = .slice .cap0 s e := rfl
@[go_sem] theorem rn_row (is ks : List Nat) (n m i s : Nat) (e : List (List LV)) : (LV.slice (.row i) s e).rn is ks n m = .slice (.row (posOf ks m i)) s e := rfl
@[go_sem] theorem arn_l (is ks : List Nat) (n m : Nat) (x : LV) : (AV.l x).rn is ks n m = .l (x.rn is ks n m) := rfl
@[go_sem] theorem arn_agg (is ks : List Nat) (n m : Nat) (x : List LV) : (AV.agg x).rn is ks n m = .agg (x.map (·.rn is ks n m)) := rfl
@[go_sem] theorem arn_tup (is ks : List Nat) (n m : Nat) (x : List AV) : (AV.tup x).rn is ks n m = .tup (x.map (·.rn1 is ks n m)) := rfl
@[go_sem] theorem arn1_l (is ks : List Nat) (n m : Nat) (x : LV) : (AV.l x).rn1 is ks n m = .l (x.rn is ks n m) := rfl
@[go_sem] theorem arn1_agg (is ks : List Nat) (n m : Nat) (x : List LV) : (AV.agg x).rn1 is ks n m = .agg (x.map (·.rn is ks n m)) := rfl
@[go_sem] theorem arn_undef (is ks : List Nat) (n m : Nat) : AV.undef.rn is ks n m = .undef := rfl
@[go_sem] theorem brn (is ks : List Nat) (n m : Nat) (T : TypeId) (c : List LV) : (Blk.mk T c).rn is ks n m = ⟨T, c.map (·.rn is ks n m)⟩ := rfl
@[go_sem] theorem posOf_nil (n i : Nat) : posOf [] n i = n + i := by simp [posOf]
@[go_sem] theorem posOf_zero (j : Nat) (is : List Nat) (n : Nat) : posOf (j :: is) n 0 = j := rfl
@[go_sem] theorem posOf_succ (j : Nat) (is : List Nat) (n i : Nat) : posOf (j :: is) n (i + 1) = posOf is n i := by
  simp only [posOf, List.getElem?_cons_succ, List.length_cons]
  cases is[i]? with
  | none => simp
  | some p => rfl

@[go_sem] theorem subS_nil (σ : List Blk) (rn : LV → LV) : subS σ rn [] [] = True := rfl
@[go_sem] theorem subS_cons (σ : List Blk) (rn : LV → LV) (i : Nat) (is : List Nat) (B : Blk) (σc : List Blk) : subS σ rn (i :: is) (B :: σc) = ((match σ[i]? with
    | some B0 => B0.T = B.T ∧ wkL B0.cells (B.cells.map rn)
    | none => False) ∧ subS σ rn is σc) := rfl
@[go_sem] theorem subR_nil (R : RowsA) : subR R [] [] = True := rfl
@[go_sem] theorem subR_cons (R Rc : RowsA) (i : Nat) (is : List Nat) (r : TypeId × Nat) : subR R (i :: is) (r :: Rc) = (R[i]? = some r ∧ subR R is Rc) := rfl
attribute [go_sem] setMany keepT envSub LV.cl AV.cl1 AV.cl clS selR resOne resList resA AV.plain
  List.take_zero List.take_succ_cons List.take_nil List.drop_zero List.drop_succ_cons List.drop_nil List.all_cons List.all_nil Bool.and_true Bool.true_and decide_true Bool.and_self List.map_map
  Option.some.injEq Prod.mk.injEq List.cons.injEq Option.getD_some Bool.and_eq_true decide_eq_true_eq imp_self implies_true forall_const

@[congr] theorem awp_congr {n k0 m0 : Nat} {c : Code} {env' : Env} {σ' : List Blk} {R' : RowsA} (h : env = env') (h2 : σ = σ') (h3 : R = R') : AWP P G n k0 m0 c Q env σ R = AWP P G n k0 m0 c Q env' σ' R' := by subst h h2 h3; rfl

/-! ### Orders -/
def eFin (K : AV → Prop) (A : Prop) : Option (Prop × AV) → Prop
  | some (S, v) => Must S (K v)
  | none => A
@[congr] theorem eFin_congr {K : AV → Prop} {A : Prop} {a a' : Option (Prop × AV)} (h : a = a') : eFin K A a = eFin K A a' := by rw [h]
@[congr] theorem early_congr {o : Oper} {K : AV → Prop} {σ' : List Blk} (h : σ = σ') : early P G H ops env σ o K = early P G H ops env σ' o K := by rw [h]
@[congr] theorem earlyV_congr {op : Op} {K : AV → Prop} {σ' : List Blk} (h : σ = σ') : earlyV P G H env σ K op = earlyV P G H env σ' K op := by rw [h]
@[congr] theorem arun_congr {p : Plan} {env' : Env} {σ' : List Blk} {R' : RowsA} (h : env = env') (h2 : σ = σ') (h3 : R = R') : arun P G H ops Ke p env σ R = arun P G H ops Ke p env' σ' R' := by subst h h2 h3; rfl
@[go_sem] theorem eFin_some (K : AV → Prop) (A S : Prop) (v : AV) : eFin K A (some (S, v)) = Must S (K v) := rfl
@[go_sem] theorem eFin_none (K : AV → Prop) (A : Prop) : eFin K A none = A := rfl
def eIxK (P : Program) (t : TypeId) (K : AV → Prop) : Option AV → Option AV → Prop
  | some (.l (.slice _ sz e)), some (.l (.int _ n)) => (match elemT P t with
      | some et => szT P et = sz ∧ 0 < sz ∧ Ix n e fun c => K (.l (.eptr c 0))
      | none => False)
  | _, _ => False
@[congr] theorem eIxK_congr {t : TypeId} {K : AV → Prop} {a a' b b' : Option AV} (h : a = a') (h2 : b = b') : eIxK P t K a b = eIxK P t K a' b' := by subst h h2; rfl
@[go_sem] theorem eIxK_slice (t : TypeId) (K : AV → Prop) (own : Own) (sz : Nat) (e : List (List LV)) (k : IntKind) (n : Int) : eIxK P t K (some (.l (.slice own sz e))) (some (.l (.int k n))) = (match elemT P t with
      | some et => szT P et = sz ∧ 0 < sz ∧ Ix n e fun c => K (.l (.eptr c 0))
      | none => False) := rfl
def eIx (P : Program) (G : Nat → Option (List LV)) (env : Env) (K : AV → Prop) : Op → Prop
  | .indexAddr t x i => eIxK P t K (opA G env x) (opA G env i)
  | _ => False
@[go_sem] theorem eIx_ix (t : TypeId) (x i : Operand) (K : AV → Prop) : eIx P G env K (.indexAddr t x i) = eIxK P t K (opA G env x) (opA G env i) := rfl
@[go_sem] theorem earlyV_eq (K : AV → Prop) (op : Op) : earlyV P G H env σ K op = eFin K (eIx P G env K op) (pv P G H env σ op) := by
  unfold earlyV
  cases pv P G H env σ op with
  | some Sv => simp only [eFin, must_eq]
  | none =>
    cases op with
    | indexAddr t x i =>
      simp only [eFin, eIx]
      generalize opA G env x = a
      generalize opA G env i = b
      cases a with
      | none => cases b <;> rfl
      | some a => cases a with
        | l a => cases a with
          | slice own sz e => cases b with
            | none => rfl
            | some b => cases b with
              | l b => cases b with
                | int k n => simp only [eIxK, ix_eq]; rfl
                | _ => rfl
              | _ => rfl
          | _ => rfl
        | _ => rfl
    | _ => rfl
structure GrdE (P : Program) (G : Nat → Option (List LV)) (H : Nat → Bool) (env : Env) (σ : List Blk) (op : Op) (K : AV → Prop) (g : Bool) : Prop where
  yes' : g = true → earlyV P G H env σ (WidV K) op
  no' : g = false → ∃ u, AV.no u = true ∧ K u
theorem grdE_eq (op : Op) (K : AV → Prop) (g : Bool) : GrdE P G H env σ op K g = ((g = true → earlyV P G H env σ (WidV K) op) ∧ (g = false → ∃ u, AV.no u = true ∧ K u)) := propext ⟨fun h => ⟨h.1, h.2⟩, fun h => ⟨h.1, h.2⟩⟩
@[congr] theorem grdE_congr {op : Op} {g g' : Bool} {K : AV → Prop} (h : g = g') : GrdE P G H env σ op K g = GrdE P G H env σ op K g' := by rw [h]
theorem GrdE.no {op : Op} {K : AV → Prop} (h : K .undef) : GrdE P G H env σ op K false := ⟨fun hg => (by cases hg), fun _ => ⟨.undef, rfl, h⟩⟩
theorem GrdE.yes {op : Op} {K : AV → Prop} (h : earlyV P G H env σ K op) : GrdE P G H env σ op K true := ⟨fun _ => earlyV_mono (fun _ h => .inl h) h, fun hg => (by cases hg)⟩
theorem GrdE.intro {op : Op} {K : AV → Prop} {g : Bool} (h : g = true → earlyV P G H env σ K op) (h' : g = false → K .undef) : GrdE P G H env σ op K g := ⟨fun hg => earlyV_mono (fun _ h => .inl h) (h hg), fun hg => ⟨.undef, rfl, h' hg⟩⟩
theorem GrdO.yes {op : Op} (h : aop P G Hl He env σ R K op) : GrdO P G Hl He env σ R op K true := ⟨fun _ => aop_mono (fun _ _ _ h => .inl h) h, fun hg => (by cases hg)⟩
theorem GrdO.intro {op : Op} {g : Bool} (h : g = true → aop P G Hl He env σ R K op) (h' : g = false → K .undef σ R) : GrdO P G Hl He env σ R op K g := ⟨fun hg => aop_mono (fun _ _ _ h => .inl h) (h hg), fun hg => ⟨.undef, rfl, h' hg⟩⟩
def earlyG (P : Program) (G : Nat → Option (List LV)) (H : Nat → Bool) (env : Env) (σ : List Blk) (op : Op) (K : AV → Prop) : Option Bool → Option (Prop × AV) → Prop
  | none, _ => False
  | some g, some (S, v) => (match mkIfb g v with
    | some u => Must (g = true → S) (K u)
    | none => False)
  | some g, none => GrdE P G H env σ op K g
@[congr] theorem earlyG_congr {op : Op} {K : AV → Prop} {a a' : Option Bool} {b b' : Option (Prop × AV)} (h : a = a') (h2 : b = b') : earlyG P G H env σ op K a b = earlyG P G H env σ op K a' b' := by subst h h2; rfl
@[go_sem] theorem earlyG_some (op : Op) (K : AV → Prop) (g : Bool) (S : Prop) (v : AV) : earlyG P G H env σ op K (some g) (some (S, v)) = (match mkIfb g v with
    | some u => Must (g = true → S) (K u)
    | none => False) := rfl
@[go_sem] theorem earlyG_none (op : Op) (K : AV → Prop) (g : Bool) : earlyG P G H env σ op K (some g) none = GrdE P G H env σ op K g := rfl
@[go_sem] theorem early_plain (d : Option Tmp) (op : Op) (t : TypeId) (p : String) (af : Array Edge) (K : AV → Prop) : early P G H ops env σ ⟨d, op, t, p, af, none⟩ K = earlyV P G H env σ K op := rfl
@[go_sem] theorem early_guard (d : Option Tmp) (op : Op) (t : TypeId) (p : String) (af : Array Edge) (j : Nat) (w : Bool) (K : AV → Prop) : early P G H ops env σ ⟨d, op, t, p, af, some (j, w)⟩ K = earlyG P G H env σ op K (gval ops env j w) (pv P G H env σ op) := by
  simp only [early, earlyG]
  cases gval ops env j w with
  | none => rfl
  | some g => cases pv P G H env σ op with
    | none => simp only [grdE_eq]
    | some Sv =>
      obtain ⟨S, v⟩ := Sv
      simp only
      cases mkIfb g v with
      | none => rfl
      | some u => simp only [must_eq]
def arE (P : Program) (G : Nat → Option (List LV)) (H : Nat → Bool) (ops : Array Oper) (K : Env → List Blk → RowsA → Prop) (p : Plan) (env : Env) (σ : List Blk) (R : RowsA) : Option Oper → Prop
  | some o => early P G H ops env σ o fun v => arun P G H ops K p (envPut o.dst v env) σ R
  | none => False
@[congr] theorem arE_congr {p : Plan} {a a' : Option Oper} (h : a = a') : arE P G H ops Ke p env σ R a = arE P G H ops Ke p env σ R a' := by rw [h]
@[go_sem] theorem arE_some (p : Plan) (d : Option Tmp) (op : Op) (t : TypeId) (q : String) (af : Array Edge) (g : Option (Nat × Bool)) : arE P G H ops Ke p env σ R (some ⟨d, op, t, q, af, g⟩) = early P G H ops env σ ⟨d, op, t, q, af, g⟩ fun v => arun P G H ops Ke p (envPut d v env) σ R := rfl
def arL (P : Program) (G : Nat → Option (List LV)) (H : Nat → Bool) (ops : Array Oper) (K : Env → List Blk → RowsA → Prop) (p : Plan) (env : Env) (σ : List Blk) (R : RowsA) : Option Oper → Prop
  | some o => astep P G (fun _ => true) H ops env σ R o fun v σ' R' => arun P G H ops K p (envPut o.dst v env) σ' R'
  | none => False
@[congr] theorem arL_congr {p : Plan} {a a' : Option Oper} (h : a = a') : arL P G H ops Ke p env σ R a = arL P G H ops Ke p env σ R a' := by rw [h]
@[go_sem] theorem arL_some (p : Plan) (d : Option Tmp) (op : Op) (t : TypeId) (q : String) (af : Array Edge) (g : Option (Nat × Bool)) : arL P G H ops Ke p env σ R (some ⟨d, op, t, q, af, g⟩) = astep P G (fun _ => true) H ops env σ R ⟨d, op, t, q, af, g⟩ fun v σ' R' => arun P G H ops Ke p (envPut d v env) σ' R' := rfl
@[go_sem] theorem arun_done : arun P G H ops Ke .done env σ R = Ke env σ R := rfl
@[go_sem] theorem arun_early (i : Nat) (p : Plan) : arun P G H ops Ke (.early i p) env σ R = arE P G H ops Ke p env σ R (opAt ops i) := rfl
@[go_sem] theorem arun_last (i : Nat) (p : Plan) : arun P G H ops Ke (.last i p) env σ R = arL P G H ops Ke p env σ R (opAt ops i) := rfl
def arT (P : Program) (G : Nat → Option (List LV)) (H : Nat → Bool) (ops : Array Oper) (K : Env → List Blk → RowsA → Prop) (p : Plan) (env : Env) (σ : List Blk) (R : RowsA) : Option Oper → Prop
  | some o => astep P G (fun _ => true) (fun _ => false) ops env σ R o fun v σ' R' => arun P G H ops K p (envPut o.dst v env) σ' R'
  | none => False
@[congr] theorem arT_congr {p : Plan} {a a' : Option Oper} (h : a = a') : arT P G H ops Ke p env σ R a = arT P G H ops Ke p env σ R a' := by rw [h]
@[go_sem] theorem arT_some (p : Plan) (d : Option Tmp) (op : Op) (t : TypeId) (q : String) (af : Array Edge) (g : Option (Nat × Bool)) : arT P G H ops Ke p env σ R (some ⟨d, op, t, q, af, g⟩) = astep P G (fun _ => true) (fun _ => false) ops env σ R ⟨d, op, t, q, af, g⟩ fun v σ' R' => arun P G H ops Ke p (envPut d v env) σ' R' := rfl
@[go_sem] theorem arun_late (i : Nat) (p : Plan) : arun P G H ops Ke (.late i p) env σ R = arT P G H ops Ke p env σ R (opAt ops i) := rfl
@[go_sem] theorem arun_fork (i : Nat) (p q : Plan) : arun P G H ops Ke (.fork i p q) env σ R = (arL P G H ops Ke p env σ R (opAt ops i) ∧ arun P G H ops Ke q env σ R) := rfl
attribute [go_sem] aggD

/-- The arguments of a call, out of their guards. -/
theorem ack_un {f : FuncId} {args : List AV} (h : ACK P G He f (args.map unI) σ R K) : ACK P G He f args σ R K :=
  ⟨h.1, fun X argsV hI hl hr => h.2 X argsV hI (by simpa using hl) fun j x hj => by
    simp only [List.getElem?_map, Option.map_eq_some_iff] at hj
    obtain ⟨y, h1, rfl⟩ := hj
    obtain ⟨u, h2, h3⟩ := hr j y h1
    exact ⟨u, h2, unI_sound h3⟩⟩

/-! ### Guarded calls and elements, without a split -/
def LV.free : LV → Bool
  | .ptr _ _ => false
  | .fn _ _ => false
  | .mfn _ _ _ => false
  | .vsl _ _ _ _ => false
  | .slice (.row _) _ _ => false
  | _ => true
def AV.free : AV → Bool
  | .l x => x.free
  | .agg xs => xs.all (·.free)
  | .undef => true
  | _ => false
theorem LV.free_rn {x : LV} (h : x.free = true) (is ks : List Nat) (n m : Nat) : x.rn is ks n m = x := by
  cases x with
  | slice own sz e => cases own <;> simp_all [LV.free, LV.rn]
  | _ => simp_all [LV.free, LV.rn]
theorem AV.free_rn {x : AV} (h : x.free = true) (is ks : List Nat) (n m : Nat) : x.rn is ks n m = x := by
  cases x with
  | l x => simp [AV.rn, AV.rn1, LV.free_rn h]
  | agg xs =>
    simp only [AV.free, List.all_eq_true] at h
    simp only [AV.rn, AV.rn1, AV.agg.injEq]
    exact (List.map_congr_left fun x hx => LV.free_rn (h x hx) is ks n m).trans (by simp)
  | undef => rfl
  | tup x => cases h
  | ifb c v => cases h
theorem AV.free_flat {v : AV} (h : v.free = true) : v.flat = true := by cases v <;> first | rfl | cases h
/-- A guarded call that comes to a value and leaves the rest. -/
theorem gcall_p {x : Operand} {xs : Array Operand} {ts : Array TypeId} {f : FuncId} {args args' : List AV} {g : Bool} {v : AV} (hf : v.free = true) (hx : opA G env x = some (.l (.fn f []))) (hxs : opAll G env xs.toList = some args)
    (h : g = true → ACX P G f args' [] [] v [] [] ∧ wkT (args.map unI) (args'.map (·.rn1 [] [] σ.length R.length))) (hK : K (.ifb g v) σ R) : GrdO P G Hl He env σ R (.call { callee := .value x, args := xs, argTypes := ts }) K g := by
  refine ⟨fun hg => ?_, fun hg => ⟨.ifb g v, by simp [AV.no, hg], hK⟩⟩
  obtain ⟨h1, h2⟩ := h hg
  subst hg
  rw [aop_callV, hx, hxs, callK_fn]
  simp only [List.map_nil, List.append_nil]
  refine ack_un (acall_p h1 h2 ?_)
  exact .inr ⟨by rw [AV.free_rn hf]; exact AV.free_flat hf, by rw [AV.free_rn hf]; exact hK⟩
/-- A guarded element. -/
theorem gix {t et : TypeId} {x i : Operand} {own : Own} {sz : Nat} {e : List (List LV)} {k : IntKind} {n : Int} {g : Bool} (c : List LV) (hx : opU G env x = some (g, .l (.slice own sz e))) (hi : opU G env i = some (g, .l (.int k n))) (het : elemT P t = some et) (hsz : szT P et = sz) (h0 : 0 < sz)
    (h : g = true → 0 ≤ n ∧ e[n.toNat]? = some c) (hK : K (.ifb g (.l (.eptr c 0))) σ R) : GrdO P G Hl He env σ R (.indexAddr t x i) K g := by
  refine ⟨fun hg => ?_, fun hg => ⟨.ifb g (.l (.eptr c 0)), by simp [AV.no, hg], hK⟩⟩
  obtain ⟨h1, h2⟩ := h hg
  subst hg
  have hop : ∀ {y : Operand} {w : LV}, opU G env y = some (true, .l w) → opA G env y = some (.l w) := fun {y w} hy => by
    simp only [opU, opA, Option.map_eq_some_iff] at hy ⊢
    obtain ⟨u, hu, hw⟩ := hy
    refine ⟨u, hu, ?_⟩
    cases u <;> simp [AV.un] at hw
    · simp [unI, hw]
    · obtain ⟨rfl, rfl⟩ := hw; rfl
  obtain ⟨hl, he⟩ := List.getElem?_eq_some_iff.1 h2
  rw [aop_indexAddr, hop hx, hop hi, indexK_slice, het]
  exact ⟨hsz, h0, ⟨h1, hl⟩, .inr ⟨rfl, by rw [he]; exact hK⟩⟩
theorem gixE {t et : TypeId} {x i : Operand} {own : Own} {sz : Nat} {e : List (List LV)} {k : IntKind} {n : Int} {g : Bool} {K : AV → Prop} (c : List LV) (hx : opU G env x = some (g, .l (.slice own sz e))) (hi : opU G env i = some (g, .l (.int k n))) (het : elemT P t = some et) (hsz : szT P et = sz) (h0 : 0 < sz)
    (h : g = true → 0 ≤ n ∧ e[n.toNat]? = some c) (hK : K (.ifb g (.l (.eptr c 0)))) : GrdE P G H env σ (.indexAddr t x i) K g := by
  refine ⟨fun hg => ?_, fun hg => ⟨.ifb g (.l (.eptr c 0)), by simp [AV.no, hg], hK⟩⟩
  obtain ⟨h1, h2⟩ := h hg
  subst hg
  have hop : ∀ {y : Operand} {w : LV}, opU G env y = some (true, .l w) → opA G env y = some (.l w) := fun {y w} hy => by
    simp only [opU, opA, Option.map_eq_some_iff] at hy ⊢
    obtain ⟨u, hu, hw⟩ := hy
    refine ⟨u, hu, ?_⟩
    cases u <;> simp [AV.un] at hw
    · simp [unI, hw]
    · obtain ⟨rfl, rfl⟩ := hw; rfl
  have hu : opA G env x = some (.l (.slice own sz e)) ∧ opA G env i = some (.l (.int k n)) := ⟨hop hx, hop hi⟩
  obtain ⟨hl, he⟩ := List.getElem?_eq_some_iff.1 h2
  have hpv : pv P G H env σ (.indexAddr t x i) = none := by simp only [pv, hx, hi]; rfl
  rw [earlyV_eq, hpv, eFin_none, eIx_ix, hu.1, hu.2, eIxK_slice, het]
  exact ⟨hsz, h0, ⟨h1, hl⟩, .inr ⟨rfl, by rw [he]; exact hK⟩⟩

/-! ### Shifts by a number that is told -/
@[go_sem] theorem min1_8 : min 1 8 = 1 := rfl
@[go_sem] theorem min1_16 : min 1 16 = 1 := rfl
@[go_sem] theorem min1_32 : min 1 32 = 1 := rfl
@[go_sem] theorem min1_64 : min 1 64 = 1 := rfl
@[go_sem] theorem min2_8 : min 2 8 = 2 := rfl
@[go_sem] theorem min2_16 : min 2 16 = 2 := rfl
@[go_sem] theorem min2_32 : min 2 32 = 2 := rfl
@[go_sem] theorem min2_64 : min 2 64 = 2 := rfl
@[go_sem] theorem min3_8 : min 3 8 = 3 := rfl
@[go_sem] theorem min3_16 : min 3 16 = 3 := rfl
@[go_sem] theorem min3_32 : min 3 32 = 3 := rfl
@[go_sem] theorem min3_64 : min 3 64 = 3 := rfl
@[go_sem] theorem min4_8 : min 4 8 = 4 := rfl
@[go_sem] theorem min4_16 : min 4 16 = 4 := rfl
@[go_sem] theorem min4_32 : min 4 32 = 4 := rfl
@[go_sem] theorem min4_64 : min 4 64 = 4 := rfl
@[go_sem] theorem min5_8 : min 5 8 = 5 := rfl
@[go_sem] theorem min5_16 : min 5 16 = 5 := rfl
@[go_sem] theorem min5_32 : min 5 32 = 5 := rfl
@[go_sem] theorem min5_64 : min 5 64 = 5 := rfl
@[go_sem] theorem min6_8 : min 6 8 = 6 := rfl
@[go_sem] theorem min6_16 : min 6 16 = 6 := rfl
@[go_sem] theorem min6_32 : min 6 32 = 6 := rfl
@[go_sem] theorem min6_64 : min 6 64 = 6 := rfl
@[go_sem] theorem min7_8 : min 7 8 = 7 := rfl
@[go_sem] theorem min7_16 : min 7 16 = 7 := rfl
@[go_sem] theorem min7_32 : min 7 32 = 7 := rfl
@[go_sem] theorem min7_64 : min 7 64 = 7 := rfl
@[go_sem] theorem min8_8 : min 8 8 = 8 := rfl
@[go_sem] theorem min8_16 : min 8 16 = 8 := rfl
@[go_sem] theorem min8_32 : min 8 32 = 8 := rfl
@[go_sem] theorem min8_64 : min 8 64 = 8 := rfl
@[go_sem] theorem min16_8 : min 16 8 = 8 := rfl
@[go_sem] theorem min16_16 : min 16 16 = 16 := rfl
@[go_sem] theorem min16_32 : min 16 32 = 16 := rfl
@[go_sem] theorem min16_64 : min 16 64 = 16 := rfl
@[go_sem] theorem min24_8 : min 24 8 = 8 := rfl
@[go_sem] theorem min24_16 : min 24 16 = 16 := rfl
@[go_sem] theorem min24_32 : min 24 32 = 24 := rfl
@[go_sem] theorem min24_64 : min 24 64 = 24 := rfl
theorem GrdO.noB {op : Op} (h : K (.ifb false (.l (.bool false))) σ R) : GrdO P G Hl He env σ R op K false := ⟨fun hg => (by cases hg), fun _ => ⟨_, rfl, h⟩⟩
theorem GrdE.noB {op : Op} {K : AV → Prop} (h : K (.ifb false (.l (.bool false)))) : GrdE P G H env σ op K false := ⟨fun hg => (by cases hg), fun _ => ⟨_, rfl, h⟩⟩
section
variable (t : TypeId) (S : Prop)
@[go_sem] theorem binV_undef (op : BinOp) (b : AV) : binV P op t S .undef b = none := by cases b <;> rfl
@[go_sem] theorem unV_undef (op : UnOp) : unV op S .undef = none := rfl
@[go_sem] theorem loadV_undef (H : Nat → Bool) (σ : List Blk) : loadV P H t σ .undef = none := rfl
@[go_sem] theorem fieldAddrV_undef (f : Nat) : fieldAddrV P t f S .undef = none := rfl
@[go_sem] theorem nilV_undef (g : Bool) : nilV (some (g, .undef)) = none := rfl
@[go_sem] theorem convV_undef (u : TypeId) : convV P t u S .undef = none := rfl
@[go_sem] theorem builtinV_undef (b : Builtin) : builtinV P b t S [.undef] = none := rfl
end
/-! ### Appends -/
theorem app_row {t : TypeId} {et i sz sz' b L : Nat} {own : Own} {e e' : List (List LV)} (het : elemT P t = some et) (hz : zeroOk P et = true) (hR : R[i]? = some (et, L)) (hL : L = e.length) (hs : szT P et = sz) (hs' : sz' = sz ∨ e' = []) (h0 : 0 < sz)
    (hb : bytesT P et = b) (hlen : (e.length + e'.length) * b ≤ 140737488355328) (hmax : e.length + e'.length ≤ 9223372036854775807)
    (hK : K (.l (.slice (.row i) sz (e ++ e'))) σ (R.set i (et, e.length + e'.length))) : appendA P t σ R K (.l (.slice (.row i) sz e)) (.l (.slice own sz' e')) := by
  subst hL hb
  simp only [appendA, het]
  exact ⟨hz, hR, hs, hs', h0, by simp only [maxBytes]; exact hlen, by simp only [maxLen]; exact hmax, hK⟩
theorem app_new {t : TypeId} {et z sz' b : Nat} {own : Own} {e' : List (List LV)} (het : elemT P t = some et) (hz : zeroOk P et = true) (hs' : sz' = szT P et ∨ e' = []) (h0 : 0 < szT P et)
    (hb : bytesT P et = b) (hlen : e'.length * b ≤ 140737488355328) (hmax : e'.length ≤ 9223372036854775807)
    (hK : K (.l (.slice (.row R.length) (szT P et) e')) σ (R ++ [(et, e'.length)])) : appendA P t σ R K (.l (.slice .cap0 z [])) (.l (.slice own sz' e')) := by
  subst hb
  simp only [appendA, het]
  exact ⟨hz, trivial, hs', h0, by simp only [maxBytes]; exact hlen, by simp only [maxLen]; exact hmax, hK⟩

/-! ### Numbers in their range -/
theorem w_i64 {n : Int} (h0 : -9223372036854775808 ≤ n) (h1 : n ≤ 9223372036854775807) : IntKind.wrap .i64 n = n := by
  simp only [IntKind.wrap, IntKind.bits, IntKind.signed]; simp; omega
theorem w_u8 {n : Int} (h0 : 0 ≤ n) (h1 : n < 256) : IntKind.wrap .u8 n = n := by
  simp only [IntKind.wrap, IntKind.bits, IntKind.signed]; simp; omega
theorem w_u16 {n : Int} (h0 : 0 ≤ n) (h1 : n < 65536) : IntKind.wrap .u16 n = n := by
  simp only [IntKind.wrap, IntKind.bits, IntKind.signed]; simp; omega
theorem w_u32 {n : Int} (h0 : 0 ≤ n) (h1 : n < 4294967296) : IntKind.wrap .u32 n = n := by
  simp only [IntKind.wrap, IntKind.bits, IntKind.signed]; simp; omega
theorem w_u64 {n : Int} (h0 : 0 ≤ n) (h1 : n < 18446744073709551616) : IntKind.wrap .u64 n = n := by
  simp only [IntKind.wrap, IntKind.bits, IntKind.signed]; simp; omega
end
attribute [go_sem] Nat.add_zero Nat.zero_add
attribute [go_sem] reduceIte Nat.reduceEqDiff reduceCtorEq Nat.reduceAdd Nat.reduceLT Nat.reduceLeDiff Int.reduceLE Int.reduceLT Int.reduceEq Int.reduceNe
attribute [go_sem] ne_eq not_false_eq_true decide_false Int.cast_ofNat_Int false_implies
attribute [go_sem] Nat.reduceMul Int.reduceToNat
end Go.Abs
