/-
  RULES FOR RECKONING: each operation's step, as an equation.
-/
import Derived.Test.YtajeoodipplmlaaDoorAbs15
import Derived.KernelRfl
set_option linter.all false
namespace Go.Abs
open Go Go.RowKit

section
variable {P : Program} {G : Nat → Option (List LV)} {Hl He : Nat → Bool} {ops : Array Oper} {env : Env} {σ : List Blk} {R : RowsA} {K : AV → List Blk → RowsA → Prop} {Ke : Env → List Blk → RowsA → Prop} {Q : Exit → Env → List Blk → RowsA → Prop}

/-- What 'pv' says, carried on. -/
def fin (r : Option (Prop × AV)) (σ : List Blk) (R : RowsA) (K : AV → List Blk → RowsA → Prop) : Prop :=
  match r with
  | some (S, v) => S ∧ K v σ R
  | none => False
/-- Something that must hold first. -/
structure Must (S K : Prop) : Prop where
  s : S
  k : K
theorem must_eq (S K : Prop) : Must S K = (S ∧ K) := propext ⟨fun h => ⟨h.s, h.k⟩, fun h => ⟨h.1, h.2⟩⟩
@[go_sem] theorem must_true (K : Prop) : Must True K = K := by simp [must_eq]
theorem Must.intro {S K : Prop} (h : S) (hk : K) : Must S K := ⟨h, hk⟩
@[congr] theorem fin_congr {r r' : Option (Prop × AV)} (h : r = r') : fin r σ R K = fin r' σ R K := by rw [h]
@[congr] theorem must_congr {S S' A : Prop} (h : S = S') : Must S A = Must S' A := by rw [h]
@[congr] theorem aop_congr {op : Op} {R' : RowsA} (h : R = R') : aop P G Hl He env σ R K op = aop P G Hl He env σ R' K op := by rw [h]
@[congr] theorem astep_congr {o : Oper} {R' : RowsA} (h : R = R') : astep P G Hl He ops env σ R o K = astep P G Hl He ops env σ R' o K := by rw [h]
@[congr] theorem aops_congr {l : List Oper} {env' : Env} {σ' : List Blk} {R' : RowsA} (h : env = env') (h2 : σ = σ') (h3 : R = R') : aops P G Hl He ops Ke l env σ R = aops P G Hl He ops Ke l env' σ' R' := by subst h h2 h3; rfl
@[congr] theorem append_congr {t : TypeId} {x x' y y' : AV} (h : x = x') (h2 : y = y') : appendA P t σ R K x y = appendA P t σ R K x' y' := by subst h h2; rfl
@[go_sem] theorem fin_some (S : Prop) (v : AV) : fin (some (S, v)) σ R K = Must S (K v σ R) := by rw [must_eq]; rfl
@[go_sem] theorem aop_move (x : Operand) : aop P G Hl He env σ R K (.move x) = fin ((opR G env x).map fun v => (True, v)) σ R K := rfl
@[go_sem] theorem aop_assign (x : Operand) : aop P G Hl He env σ R K (.assign x) = fin ((opR G env x).map fun v => (True, v)) σ R K := rfl
@[go_sem] theorem aop_pick (c x y : Operand) : aop P G Hl He env σ R K (.pick c x y) = fin (pv P G Hl env σ (.pick c x y)) σ R K := rfl
@[go_sem] theorem aop_load (t : TypeId) (x : Operand) : aop P G Hl He env σ R K (.load t x) = fin (pv P G Hl env σ (.load t x)) σ R K := rfl
@[go_sem] theorem aop_nilCheck (x : Operand) : aop P G Hl He env σ R K (.nilCheck x) = fin (pv P G Hl env σ (.nilCheck x)) σ R K := rfl
@[go_sem] theorem aop_unOp (o : UnOp) (t : TypeId) (x : Operand) : aop P G Hl He env σ R K (.unOp o t x) = fin (pv P G Hl env σ (.unOp o t x)) σ R K := rfl
@[go_sem] theorem aop_convert (s t : TypeId) (x : Operand) : aop P G Hl He env σ R K (.convert s t x) = fin (pv P G Hl env σ (.convert s t x)) σ R K := rfl
@[go_sem] theorem aop_fieldAddr (t : TypeId) (x : Operand) (f : Nat) : aop P G Hl He env σ R K (.fieldAddr t x f) = fin (pv P G Hl env σ (.fieldAddr t x f)) σ R K := rfl
@[go_sem] theorem aop_field (t : TypeId) (x : Operand) (f : Nat) : aop P G Hl He env σ R K (.field t x f) = fin (pv P G Hl env σ (.field t x f)) σ R K := rfl
@[go_sem] theorem aop_index (t : TypeId) (x i : Operand) : aop P G Hl He env σ R K (.index t x i) = fin (pv P G Hl env σ (.index t x i)) σ R K := rfl
@[go_sem] theorem aop_extract (x : Operand) (i : Nat) : aop P G Hl He env σ R K (.extract x i) = fin (pv P G Hl env σ (.extract x i)) σ R K := rfl
@[go_sem] theorem aop_slice (t : TypeId) (x : Operand) (lo hi mx : Option Operand) : aop P G Hl He env σ R K (.slice t x lo hi mx) = fin (pv P G Hl env σ (.slice t x lo hi mx)) σ R K := rfl
@[go_sem] theorem aop_build (t : TypeId) (ps : Array (Nat × Operand)) : aop P G Hl He env σ R K (.build t ps) = fin (pv P G Hl env σ (.build t ps)) σ R K := rfl
@[go_sem] theorem aop_makeFunc (f : Fn) (a b : Array Operand) : aop P G Hl He env σ R K (.makeFunc f a b) = fin (pv P G Hl env σ (.makeFunc f a b)) σ R K := rfl
@[go_sem] theorem aop_alloc (t : TypeId) : aop P G Hl He env σ R K (.alloc t) = (match zeroA P t with | some cs => K (.l (.ptr σ.length 0)) (σ ++ [⟨t, cs⟩]) R | none => False) := rfl
@[go_sem] theorem aop_box (t : TypeId) (x : Operand) : aop P G Hl He env σ R K (.box t x) = (match (opA G env x).bind AV.cellsL with | some cs => cs.length = szT P t ∧ K (.l (.ptr σ.length 0)) (σ ++ [⟨t, cs⟩]) R | none => False) := rfl
def storeK (P : Program) (He : Nat → Bool) (t : TypeId) (σ : List Blk) (R : RowsA) (K : AV → List Blk → RowsA → Prop) : Option AV → Option (List LV) → Prop
  | some (.l (.ptr i off)), some vs => (match σ[i]? with
      | some B => He i = false ∧ 0 < vs.length ∧ vs.length = szT P t ∧ off + vs.length ≤ B.cells.length ∧ K .undef (σ.set i ⟨B.T, spliceL B.cells off vs⟩) R
      | none => False)
  | _, _ => False
@[congr] theorem storeK_congr {t : TypeId} {a a' : Option AV} {b b' : Option (List LV)} (h : a = a') (h2 : b = b') : storeK P He t σ R K a b = storeK P He t σ R K a' b' := by subst h h2; rfl
@[go_sem] theorem aop_store (t : TypeId) (x y : Operand) : aop P G Hl He env σ R K (.store t x y) = storeK P He t σ R K (opA G env x) ((opA G env y).bind AV.cellsL) := rfl
@[go_sem] theorem storeK_ptr (t : TypeId) (i off : Nat) (vs : List LV) : storeK P He t σ R K (some (.l (.ptr i off))) (some vs) = (match σ[i]? with
      | some B => He i = false ∧ 0 < vs.length ∧ vs.length = szT P t ∧ off + vs.length ≤ B.cells.length ∧ K .undef (σ.set i ⟨B.T, spliceL B.cells off vs⟩) R
      | none => False) := rfl
def litK (P : Program) (t : TypeId) (len : Nat) (σ : List Blk) (R : RowsA) (K : AV → List Blk → RowsA → Prop) : Option TypeId → Option (List (Nat × AV)) → Prop
  | some et, some vs => (match partsSh (szT P et) 0 vs with
      | some es => es.length = len ∧ len < 1000 ∧ 0 < szT P et ∧ szT P et < 1000 ∧ (match es with
        | [] => K (.l (.slice .cap0 (szT P et) [])) σ R
        | e :: es => zeroOk P et = true ∧ K (.l (.slice (.row R.length) (szT P et) (e :: es))) σ (R ++ [(et, len)]))
      | none => (match partsV (szT P et) 0 vs with
        | some cs => vs.length = len ∧ 0 < len ∧ len < 1000 ∧ 0 < szT P et ∧ szT P et < 1000 ∧ zeroOk P et = true ∧ K (.l (.vsl σ.length 0 (szT P et) len)) (σ ++ [⟨et, cs⟩]) R
        | none => False))
  | _, _ => False
@[congr] theorem litK_congr {t : TypeId} {len : Nat} {a a' : Option TypeId} {b b' : Option (List (Nat × AV))} (h : a = a') (h2 : b = b') : litK P t len σ R K a b = litK P t len σ R K a' b' := by subst h h2; rfl
@[go_sem] theorem aop_buildSlice (t : TypeId) (len : Nat) (ps : Array (Nat × Operand)) : aop P G Hl He env σ R K (.buildSlice t len ps) = litK P t len σ R K (elemT P t) (opParts G env ps.toList) := rfl
@[go_sem] theorem litK_some (t et : TypeId) (len : Nat) (vs : List (Nat × AV)) : litK P t len σ R K (some et) (some vs) = (match partsSh (szT P et) 0 vs with
      | some es => es.length = len ∧ len < 1000 ∧ 0 < szT P et ∧ szT P et < 1000 ∧ (match es with
        | [] => K (.l (.slice .cap0 (szT P et) [])) σ R
        | e :: es => zeroOk P et = true ∧ K (.l (.slice (.row R.length) (szT P et) (e :: es))) σ (R ++ [(et, len)]))
      | none => (match partsV (szT P et) 0 vs with
        | some cs => vs.length = len ∧ 0 < len ∧ len < 1000 ∧ 0 < szT P et ∧ szT P et < 1000 ∧ zeroOk P et = true ∧ K (.l (.vsl σ.length 0 (szT P et) len)) (σ ++ [⟨et, cs⟩]) R
        | none => False)) := rfl
/-- An element of a list. -/
structure Ix (N : Int) (e : List (List LV)) (K : List LV → Prop) : Prop where
  h : 0 ≤ N ∧ N.toNat < e.length
  k : K (e[N.toNat]'h.2)
theorem ix_eq (N : Int) (e : List (List LV)) (K : List LV → Prop) : Ix N e K = ∃ h : 0 ≤ N ∧ N.toNat < e.length, K (e[N.toNat]'h.2) := propext ⟨fun h => ⟨h.h, h.k⟩, fun ⟨h, k⟩ => ⟨h, k⟩⟩
@[congr] theorem ix_congr {N N' : Int} {e e' : List (List LV)} {K : List LV → Prop} (h : N = N') (he : e = e') : Ix N e K = Ix N' e' K := by subst h he; rfl
def indexK (P : Program) (t : TypeId) (σ : List Blk) (R : RowsA) (K : AV → List Blk → RowsA → Prop) : Option AV → Option AV → Prop
  | some (.l (.slice _ sz e)), some (.l (.int _ n)) => (match elemT P t with
      | some et => szT P et = sz ∧ 0 < sz ∧ Ix n e fun c => K (.l (.eptr c 0)) σ R
      | none => False)
  | some (.l (.vsl i off sz len)), some (.l (.int _ n)) => (match elemT P t with
      | some et => szT P et = sz ∧ 0 < sz ∧ (0 ≤ n ∧ n.toNat < len) ∧ K (.l (.ptr i (off + n.toNat * sz))) σ R
      | none => False)
  | some a, some b => fin (arrAddrV P t True a b) σ R K
  | _, _ => False
@[congr] theorem indexK_congr {t : TypeId} {a a' b b' : Option AV} (h : a = a') (h2 : b = b') : indexK P t σ R K a b = indexK P t σ R K a' b' := by subst h h2; rfl
@[go_sem] theorem aop_indexAddr (t : TypeId) (x i : Operand) : aop P G Hl He env σ R K (.indexAddr t x i) = indexK P t σ R K (opA G env x) (opA G env i) := by
  simp only [aop]
  generalize opA G env x = a
  generalize opA G env i = b
  cases a with
  | none => cases b <;> rfl
  | some a =>
    cases b with
    | none => cases a with
      | l a => cases a <;> rfl
      | _ => rfl
    | some b => cases a with
      | l a => cases a with
        | slice own sz e => cases b with
          | l b => cases b with
            | int k n => simp only [indexK, ix_eq]; rfl
            | _ => rfl
          | _ => rfl
        | vsl i off sz len => cases b with
          | l b => cases b <;> rfl
          | _ => rfl
        | _ => rfl
      | _ => rfl
@[go_sem] theorem indexK_slice (t : TypeId) (own : Own) (sz : Nat) (e : List (List LV)) (k : IntKind) (n : Int) : indexK P t σ R K (some (.l (.slice own sz e))) (some (.l (.int k n))) = (match elemT P t with
      | some et => szT P et = sz ∧ 0 < sz ∧ Ix n e fun c => K (.l (.eptr c 0)) σ R
      | none => False) := rfl
@[go_sem] theorem indexK_vsl (t : TypeId) (i off sz len : Nat) (k : IntKind) (n : Int) : indexK P t σ R K (some (.l (.vsl i off sz len))) (some (.l (.int k n))) = (match elemT P t with
      | some et => szT P et = sz ∧ 0 < sz ∧ (0 ≤ n ∧ n.toNat < len) ∧ K (.l (.ptr i (off + n.toNat * sz))) σ R
      | none => False) := rfl
@[go_sem] theorem indexK_ptr (t : TypeId) (i off : Nat) (b : AV) : indexK P t σ R K (some (.l (.ptr i off))) (some b) = fin (arrAddrV P t True (.l (.ptr i off)) b) σ R K := rfl
@[go_sem] theorem indexK_eptr (t : TypeId) (cells : List LV) (off : Nat) (b : AV) : indexK P t σ R K (some (.l (.eptr cells off))) (some b) = fin (arrAddrV P t True (.l (.eptr cells off)) b) σ R K := rfl
/-- A comparison with nil, or any other. -/
def binF (P : Program) (op : BinOp) (t : TypeId) (σ : List Blk) (R : RowsA) (K : AV → List Blk → RowsA → Prop) : Option (Bool × AV) → Option (Bool × AV) → Prop
  | some (g, a), some (h, b) => fin (binV P op t (g = true ∧ h = true) a b) σ R K
  | _, _ => False
def binK (P : Program) (op : BinOp) (t : TypeId) (y : Operand) (σ : List Blk) (R : RowsA) (K : AV → List Blk → RowsA → Prop) (ux uy : Option (Bool × AV)) : Option AV → Option AV → Prop
  | some (.l (.slice _ _ e)), some (.l (.slice .cap0 _ _)) => (match y, P.underlying t, op with
      | .const _, some (.slice _), .eql => (e = [] → K (.l (.bool true)) σ R) ∧ K (.l (.bool false)) σ R
      | .const _, some (.slice _), .neq => (e = [] → K (.l (.bool false)) σ R) ∧ K (.l (.bool true)) σ R
      | _, _, _ => False)
  | _, _ => binF P op t σ R K ux uy
@[congr] theorem binF_congr {op : BinOp} {t : TypeId} {a a' b b' : Option (Bool × AV)} (h : a = a') (h2 : b = b') : binF P op t σ R K a b = binF P op t σ R K a' b' := by subst h h2; rfl
@[congr] theorem binK_congr {op : BinOp} {t : TypeId} {y : Operand} {ux uy : Option (Bool × AV)} {a a' b b' : Option AV} (h : a = a') (h2 : b = b') : binK P op t y σ R K ux uy a b = binK P op t y σ R K ux uy a' b' := by subst h h2; rfl
theorem aop_binOp (op : BinOp) (t : TypeId) (x y : Operand) (yt : TypeId) : aop P G Hl He env σ R K (.binOp op t x y yt) = binK P op t y σ R K (opU G env x) (opU G env y) (opA G env x) (opA G env y) := by
  have hF : (match pv P G Hl env σ (.binOp op t x y yt) with | some (S, v) => S ∧ K v σ R | none => False) = binF P op t σ R K (opU G env x) (opU G env y) := by
    simp only [pv]
    cases opU G env x with
    | none => rfl
    | some a => cases opU G env y <;> rfl
  simp only [aop, binK]
  rw [← hF]
  cases opA G env x with
  | none => rfl
  | some a =>
    cases a with
    | l a =>
      cases a with
      | slice own sz e =>
        cases opA G env y with
        | none => rfl
        | some b => cases b with
          | l b => cases b with
            | slice own' sz' e' => cases own' <;> rfl
            | _ => rfl
          | _ => rfl
      | _ => rfl
    | _ => rfl
attribute [go_sem] aop_binOp
section
variable (op : BinOp) (t : TypeId) (y : Operand) (ux uy : Option (Bool × AV)) (c : Option AV)
@[go_sem] theorem binK_int (k : IntKind) (a : Int) : binK P op t y σ R K ux uy (some (.l (.int k a))) c = binF P op t σ R K ux uy := rfl
@[go_sem] theorem binK_bool (a : Bool) : binK P op t y σ R K ux uy (some (.l (.bool a))) c = binF P op t σ R K ux uy := rfl
@[go_sem] theorem binK_str (a : List Int) : binK P op t y σ R K ux uy (some (.l (.str a))) c = binF P op t σ R K ux uy := rfl
@[go_sem] theorem binK_ptr (i o : Nat) : binK P op t y σ R K ux uy (some (.l (.ptr i o))) c = binF P op t σ R K ux uy := rfl
@[go_sem] theorem binK_nilp : binK P op t y σ R K ux uy (some (.l .nilp)) c = binF P op t σ R K ux uy := rfl
@[go_sem] theorem binK_agg (a : List LV) : binK P op t y σ R K ux uy (some (.agg a)) c = binF P op t σ R K ux uy := rfl
@[go_sem] theorem binK_ifInt (g : Bool) (k : IntKind) (a : Int) : binK P op t y σ R K ux uy (some (unI (.ifb g (.l (.int k a))))) c = binF P op t σ R K ux uy := by cases g <;> rfl
@[go_sem] theorem binK_ifBool (g : Bool) (a : Bool) : binK P op t y σ R K ux uy (some (unI (.ifb g (.l (.bool a))))) c = binF P op t σ R K ux uy := by cases g <;> rfl
@[go_sem] theorem binK_ifStr (g : Bool) (a : List Int) : binK P op t y σ R K ux uy (some (unI (.ifb g (.l (.str a))))) c = binF P op t σ R K ux uy := by cases g <;> rfl
@[go_sem] theorem binK_ifAgg (g : Bool) (a : List LV) : binK P op t y σ R K ux uy (some (unI (.ifb g (.agg a)))) c = binF P op t σ R K ux uy := by cases g <;> rfl
@[go_sem] theorem binK_nil (own : Own) (sz z : Nat) (e e' : List (List LV)) : binK P op t y σ R K ux uy (some (.l (.slice own sz e))) (some (.l (.slice .cap0 z e'))) = (match y, P.underlying t, op with
      | .const _, some (.slice _), .eql => (e = [] → K (.l (.bool true)) σ R) ∧ K (.l (.bool false)) σ R
      | .const _, some (.slice _), .neq => (e = [] → K (.l (.bool false)) σ R) ∧ K (.l (.bool true)) σ R
      | _, _, _ => False) := rfl
@[go_sem] theorem binF_some (g h : Bool) (a b : AV) : binF P op t σ R K (some (g, a)) (some (h, b)) = fin (binV P op t (g = true ∧ h = true) a b) σ R K := rfl
end
@[go_sem] theorem unI_true (v : AV) : unI (.ifb true v) = v := rfl
@[go_sem] theorem unI_false (v : AV) : unI (.ifb false v) = .ifb false v := rfl
@[go_sem] theorem unI_l (x : LV) : unI (.l x) = .l x := rfl
@[go_sem] theorem unI_agg (x : List LV) : unI (.agg x) = .agg x := rfl
@[go_sem] theorem unI_tup (x : List AV) : unI (.tup x) = .tup x := rfl
@[go_sem] theorem unI_undef : unI .undef = .undef := rfl
def callK (P : Program) (G : Nat → Option (List LV)) (He : Nat → Bool) (σ : List Blk) (R : RowsA) (K : AV → List Blk → RowsA → Prop) : Option AV → Option (List AV) → Prop
  | some (.l (.fn f caps)), some vs => ACK P G He f (vs ++ caps.map fun c => .l (.ptr c.1 c.2)) σ R K
  | some (.l (.mfn f i o)), some vs => ACK P G He f (.l (.ptr i o) :: vs) σ R K
  | _, _ => False
@[congr] theorem callK_congr {a a' : Option AV} {b b' : Option (List AV)} (h : a = a') (h2 : b = b') : callK P G He σ R K a b = callK P G He σ R K a' b' := by subst h h2; rfl
theorem aop_callV (x : Operand) (args : Array Operand) (ts : Array TypeId) : aop P G Hl He env σ R K (.call { callee := .value x, args := args, argTypes := ts }) = callK P G He σ R K (opA G env x) (opAll G env args.toList) := rfl
attribute [go_sem] aop_callV
@[go_sem] theorem callK_mfn (f : FuncId) (i o : Nat) (vs : List AV) : callK P G He σ R K (some (.l (.mfn f i o))) (some vs) = ACK P G He f (.l (.ptr i o) :: vs) σ R K := rfl
@[go_sem] theorem callK_fn (f : FuncId) (caps : List (Nat × Nat)) (vs : List AV) : callK P G He σ R K (some (.l (.fn f caps))) (some vs) = ACK P G He f (vs ++ caps.map fun c => .l (.ptr c.1 c.2)) σ R K := rfl
@[go_sem] theorem aop_append (s x : Operand) (t t' : TypeId) : aop P G Hl He env σ R K (.call { callee := .builtin .append, args := #[s, x], argTypes := #[t, t'] }) = (match opA G env s, opA G env x with | some s, some x => t = t' ∧ appendA P t σ R K s x | _, _ => False) := by
  simp only [aop]
  simp
  cases opA G env s <;> cases opA G env x <;> simp
@[go_sem] theorem aop_len (x : Operand) (t : TypeId) : aop P G Hl He env σ R K (.call { callee := .builtin .len, args := #[x], argTypes := #[t] }) = fin (pv P G Hl env σ (.call { callee := .builtin .len, args := #[x], argTypes := #[t] })) σ R K := rfl
@[go_sem] theorem aop_max (x y : Operand) (ts : Array TypeId) : aop P G Hl He env σ R K (.call { callee := .builtin .max, args := #[x, y], argTypes := ts }) = fin (pv P G Hl env σ (.call { callee := .builtin .max, args := #[x, y], argTypes := ts })) σ R K := rfl
@[go_sem] theorem aop_min (x y : Operand) (ts : Array TypeId) : aop P G Hl He env σ R K (.call { callee := .builtin .min, args := #[x, y], argTypes := ts }) = fin (pv P G Hl env σ (.call { callee := .builtin .min, args := #[x, y], argTypes := ts })) σ R K := rfl

@[congr] theorem ack_congr {f : FuncId} {args args' : List AV} (h : args = args') : ACK P G He f args σ R K = ACK P G He f args' σ R K := by rw [h]
@[go_sem] theorem astep_plain (d : Option Tmp) (op : Op) (t : TypeId) (p : String) (af : Array Edge) : astep P G Hl He ops env σ R ⟨d, op, t, p, af, none⟩ K = aop P G Hl He env σ R K op := rfl
/-- The slot that an operation of a list writes. -/
def dstAt (ops : Array Oper) (j : Nat) : Option Tmp := (ops[j]?).bind (·.dst)
@[congr] theorem dstAt_congr {j j' : Nat} (h : j = j') : dstAt ops j = dstAt ops j' := by rw [h]
@[go_sem] theorem dstAt_zero (d : Option Tmp) (op : Op) (t : TypeId) (p : String) (af : Array Edge) (g : Option (Nat × Bool)) (l : List Oper) : dstAt (List.toArray (⟨d, op, t, p, af, g⟩ :: l)) 0 = d := by simp [dstAt]
@[go_sem] theorem dstAt_succ (o : Oper) (l : List Oper) (n : Nat) : dstAt (List.toArray (o :: l)) (n + 1) = dstAt (List.toArray l) n := by simp [dstAt]
def gvalT (want : Bool) : Option AV → Option Bool
  | some (.l (.bool b)) => some (cond want b (!b))
  | some (.ifb c (.l (.bool b))) => some (c && cond want b (!b))
  | some .undef => some false
  | _ => none
@[go_sem] theorem gval_eq (j : Nat) (w : Bool) : gval ops env j w = gvalT w ((dstAt ops j).bind (envGet env)) := by
  unfold gval gvalT dstAt
  rfl
@[congr] theorem gval_congr {j j' : Nat} {w : Bool} (h : j = j') : gval ops env j w = gval ops env j' w := by rw [h]
/-- An operation of a list. -/
def opAt (ops : Array Oper) (j : Nat) : Option Oper := ops[j]?
@[congr] theorem opAt_congr {j j' : Nat} (h : j = j') : opAt ops j = opAt ops j' := by rw [h]
@[go_sem] theorem opAt_zero (o : Oper) (l : List Oper) : opAt (List.toArray (o :: l)) 0 = some o := by simp [opAt]
@[go_sem] theorem opAt_succ (o : Oper) (l : List Oper) (n : Nat) : opAt (List.toArray (o :: l)) (n + 1) = opAt (List.toArray l) n := by simp [opAt]
theorem awp_regionL {n k0 m0 id : Nat} {l : List Oper} (hd : dstsOk n l.toArray = true) (h : aops P G (fun _ => true) (fun _ => false) l.toArray (fun env σ R => Q .normal env σ R) l env σ R) : AWP P G n k0 m0 (.region id l.toArray false) Q env σ R :=
  awp_region hd h
/-- An operation behind a guard. -/
structure GrdO (P : Program) (G : Nat → Option (List LV)) (Hl He : Nat → Bool) (env : Env) (σ : List Blk) (R : RowsA) (op : Op) (K : AV → List Blk → RowsA → Prop) (g : Bool) : Prop where
  yes' : g = true → aop P G Hl He env σ R (Wid K) op
  no' : g = false → ∃ u, AV.no u = true ∧ K u σ R
theorem grdO_eq (op : Op) (g : Bool) : GrdO P G Hl He env σ R op K g = ((g = true → aop P G Hl He env σ R (Wid K) op) ∧ (g = false → ∃ u, AV.no u = true ∧ K u σ R)) := propext ⟨fun h => ⟨h.1, h.2⟩, fun h => ⟨h.1, h.2⟩⟩
@[congr] theorem grdO_congr {op : Op} {g g' : Bool} (h : g = g') : GrdO P G Hl He env σ R op K g = GrdO P G Hl He env σ R op K g' := by rw [h]
theorem GrdO.no {op : Op} (h : K .undef σ R) : GrdO P G Hl He env σ R op K false := ⟨fun hg => (by cases hg), fun _ => ⟨.undef, rfl, h⟩⟩
def stepG (P : Program) (G : Nat → Option (List LV)) (Hl He : Nat → Bool) (env : Env) (σ : List Blk) (R : RowsA) (op : Op) (K : AV → List Blk → RowsA → Prop) : Option Bool → Option (Prop × AV) → Prop
  | none, _ => False
  | some g, some (S, v) => (match mkIfb g v with
    | some u => Must (g = true → S) (K u σ R)
    | none => False)
  | some g, none => GrdO P G Hl He env σ R op K g
@[congr] theorem stepG_congr {op : Op} {a a' : Option Bool} {b b' : Option (Prop × AV)} (h : a = a') (h2 : b = b') : stepG P G Hl He env σ R op K a b = stepG P G Hl He env σ R op K a' b' := by subst h h2; rfl
@[go_sem] theorem astep_guard (d : Option Tmp) (op : Op) (t : TypeId) (p : String) (af : Array Edge) (j : Nat) (w : Bool) : astep P G Hl He ops env σ R ⟨d, op, t, p, af, some (j, w)⟩ K = stepG P G Hl He env σ R op K (gval ops env j w) (pv P G Hl env σ op) := by
  simp only [astep, stepG]
  cases gval ops env j w with
  | none => rfl
  | some g => cases pv P G Hl env σ op with
    | none => simp only [grdO_eq]
    | some Sv =>
      obtain ⟨S, v⟩ := Sv
      simp only
      cases mkIfb g v with
      | none => rfl
      | some u => simp only [must_eq]
@[go_sem] theorem stepG_some (op : Op) (g : Bool) (S : Prop) (v : AV) : stepG P G Hl He env σ R op K (some g) (some (S, v)) = (match mkIfb g v with
    | some u => Must (g = true → S) (K u σ R)
    | none => False) := rfl
@[go_sem] theorem stepG_none (op : Op) (g : Bool) : stepG P G Hl He env σ R op K (some g) none = GrdO P G Hl He env σ R op K g := rfl
@[go_sem] theorem aops_nil : aops P G Hl He ops Ke [] env σ R = Ke env σ R := rfl
@[go_sem] theorem aops_cons (d : Option Tmp) (op : Op) (t : TypeId) (p : String) (af : Array Edge) (g : Option (Nat × Bool)) (rest : List Oper) :
    aops P G Hl He ops Ke (⟨d, op, t, p, af, g⟩ :: rest) env σ R = astep P G Hl He ops env σ R ⟨d, op, t, p, af, g⟩ fun v σ' R' => aops P G Hl He ops Ke rest (envPut d v env) σ' R' := rfl
@[go_sem] theorem thenA_normal {next : Env → List Blk → RowsA → Prop} : thenA next Q .normal env σ R = next env σ R := rfl
@[go_sem] theorem thenA_exit {next : Env → List Blk → RowsA → Prop} (i : Nat) : thenA next Q (.exit i) env σ R = Q (.exit i) env σ R := rfl
@[go_sem] theorem thenA_ret {next : Env → List Blk → RowsA → Prop} : thenA next Q .ret env σ R = Q .ret env σ R := rfl
@[go_sem] theorem inBlockA_normal (id : Nat) : inBlockA id Q .normal env σ R = Q .normal env σ R := rfl
@[go_sem] theorem inBlockA_ret (id : Nat) : inBlockA id Q .ret env σ R = Q .ret env σ R := rfl
@[go_sem] theorem inBlockA_exit (id i : Nat) : inBlockA id Q (.exit i) env σ R = if i = id then Q .normal env σ R else Q (.exit i) env σ R := rfl
@[go_sem] theorem thenA_panic {next : Env → List Blk → RowsA → Prop} (c : List PanicEntry) : thenA next Q (.panic c) env σ R = Q (.panic c) env σ R := rfl
@[go_sem] theorem inBlockA_panic (id : Nat) (c : List PanicEntry) : inBlockA id Q (.panic c) env σ R = Q (.panic c) env σ R := rfl
@[go_sem] theorem retOk_panic (rs : Array ResultVar) (Qc : AV → List Blk → RowsA → Prop) (k m : Nat) (c : List PanicEntry) : RetOk P rs Qc k m (.panic c) env σ R = False := by
  simp [RetOk]
end
section
variable {P : Program} {G : Nat → Option (List LV)} {H : Nat → Bool} {env : Env} {σ : List Blk}
@[go_sem] theorem pv_move (x : Operand) : pv P G H env σ (.move x) = (opR G env x).map fun v => (True, v) := rfl
@[go_sem] theorem pv_assign (x : Operand) : pv P G H env σ (.assign x) = (opR G env x).map fun v => (True, v) := rfl
def pickV : Option (Bool × AV) → Option (Bool × AV) → Option (Bool × AV) → Option (Prop × AV)
  | some (gc, .l (.bool c)), some (gx, .l (.bool p)), some (gy, .l (.bool q)) => some ((gc = true ∧ (c = true → gx = true) ∧ (c = false → gy = true)), .l (.bool (cond c p q)))
  | _, _, _ => none
@[go_sem] theorem pickV_some (gc gx gy c p q : Bool) : pickV (some (gc, .l (.bool c))) (some (gx, .l (.bool p))) (some (gy, .l (.bool q))) = some ((gc = true ∧ (c = true → gx = true) ∧ (c = false → gy = true)), .l (.bool (cond c p q))) := rfl
@[go_sem] theorem pv_pick (c x y : Operand) : pv P G H env σ (.pick c x y) = pickV (opU G env c) (opU G env x) (opU G env y) := rfl
def on1 (f : Prop → AV → Option (Prop × AV)) : Option (Bool × AV) → Option (Prop × AV)
  | some (g, v) => f (g = true) v
  | none => none
@[go_sem] theorem on1_some (f : Prop → AV → Option (Prop × AV)) (g : Bool) (v : AV) : on1 f (some (g, v)) = f (g = true) v := rfl
def on2 (f : Prop → AV → AV → Option (Prop × AV)) : Option (Bool × AV) → Option (Bool × AV) → Option (Prop × AV)
  | some (g, v), some (h, u) => f (g = true ∧ h = true) v u
  | _, _ => none
@[go_sem] theorem on2_some (f : Prop → AV → AV → Option (Prop × AV)) (g h : Bool) (v u : AV) : on2 f (some (g, v)) (some (h, u)) = f (g = true ∧ h = true) v u := rfl
@[congr] theorem on1_congr {f : Prop → AV → Option (Prop × AV)} {a a' : Option (Bool × AV)} (h : a = a') : on1 f a = on1 f a' := by rw [h]
@[congr] theorem on2_congr {f : Prop → AV → AV → Option (Prop × AV)} {a a' b b' : Option (Bool × AV)} (h : a = a') (h2 : b = b') : on2 f a b = on2 f a' b' := by subst h h2; rfl
@[go_sem] theorem pv_load (t : TypeId) (x : Operand) : pv P G H env σ (.load t x) = on1 (fun S v => (loadV P H t σ v).map fun u => (S, u)) (opU G env x) := by simp only [pv]; cases opU G env x <;> rfl
def nilV : Option (Bool × AV) → Option (Prop × AV)
  | some (g, .l (.ptr i o)) => some (g = true, .l (.ptr i o))
  | some (g, .l (.eptr cells o)) => some (g = true, .l (.eptr cells o))
  | some (g, .l (.fn f caps)) => some (g = true, .l (.fn f caps))
  | some (g, .l (.mfn f i o)) => some (g = true, .l (.mfn f i o))
  | _ => none
@[go_sem] theorem nilV_ptr (g : Bool) (i o : Nat) : nilV (some (g, .l (.ptr i o))) = some (g = true, .l (.ptr i o)) := rfl
@[go_sem] theorem nilV_eptr (g : Bool) (c : List LV) (o : Nat) : nilV (some (g, .l (.eptr c o))) = some (g = true, .l (.eptr c o)) := rfl
@[go_sem] theorem nilV_mfn (g : Bool) (f : FuncId) (i o : Nat) : nilV (some (g, .l (.mfn f i o))) = some (g = true, .l (.mfn f i o)) := rfl
@[go_sem] theorem nilV_fn (g : Bool) (f : FuncId) (c : List (Nat × Nat)) : nilV (some (g, .l (.fn f c))) = some (g = true, .l (.fn f c)) := rfl
@[go_sem] theorem pv_nilCheck (x : Operand) : pv P G H env σ (.nilCheck x) = nilV (opU G env x) := rfl
@[go_sem] theorem pv_binOp (op : BinOp) (t : TypeId) (x y : Operand) (yt : TypeId) : pv P G H env σ (.binOp op t x y yt) = on2 (fun S a b => binV P op t S a b) (opU G env x) (opU G env y) := by simp only [pv]; cases opU G env x <;> cases opU G env y <;> rfl
@[go_sem] theorem pv_unOp (op : UnOp) (t : TypeId) (x : Operand) : pv P G H env σ (.unOp op t x) = on1 (fun S a => unV op S a) (opU G env x) := by simp only [pv]; cases opU G env x <;> rfl
@[go_sem] theorem pv_convert (s t : TypeId) (x : Operand) : pv P G H env σ (.convert s t x) = on1 (fun S a => convV P s t S a) (opU G env x) := by simp only [pv]; cases opU G env x <;> rfl
@[go_sem] theorem pv_fieldAddr (t : TypeId) (x : Operand) (f : Nat) : pv P G H env σ (.fieldAddr t x f) = on1 (fun S a => fieldAddrV P t f S a) (opU G env x) := by simp only [pv]; cases opU G env x <;> rfl
@[go_sem] theorem pv_field (t : TypeId) (x : Operand) (f : Nat) : pv P G H env σ (.field t x f) = on1 (fun S a => fieldV P t f S a) (opU G env x) := by simp only [pv]; cases opU G env x <;> rfl
@[go_sem] theorem pv_indexAddr (t : TypeId) (x i : Operand) : pv P G H env σ (.indexAddr t x i) = on2 (fun S a b => arrAddrV P t S a b) (opU G env x) (opU G env i) := by simp only [pv]; cases opU G env x <;> cases opU G env i <;> rfl
@[go_sem] theorem pv_index (t : TypeId) (x i : Operand) : pv P G H env σ (.index t x i) = on2 (fun S a b => indexV P t S a b) (opU G env x) (opU G env i) := by simp only [pv]; cases opU G env x <;> cases opU G env i <;> rfl
def extV (i : Nat) : Option AV → Option (Prop × AV)
  | some (.tup vs) => (vs[i]?).map fun v => (True, v)
  | _ => none
@[go_sem] theorem extV_tup (i : Nat) (vs : List AV) : extV i (some (.tup vs)) = (vs[i]?).map fun v => (True, v) := rfl
@[go_sem] theorem pv_extract (x : Operand) (i : Nat) : pv P G H env σ (.extract x i) = extV i (opA G env x) := rfl
def slV (P : Program) (t : TypeId) : Option AV → Option (Option AV) → Option (Option AV) → Option (Prop × AV)
  | some v, some (some a), some (some b) => sliceV P t True (some a) (some b) v
  | some v, none, some (some b) => sliceV P t True none (some b) v
  | some v, some (some a), none => sliceV P t True (some a) none v
  | _, _, _ => none
@[go_sem] theorem slV_both (t : TypeId) (v a b : AV) : slV P t (some v) (some (some a)) (some (some b)) = sliceV P t True (some a) (some b) v := rfl
@[go_sem] theorem slV_hi (t : TypeId) (v b : AV) : slV P t (some v) none (some (some b)) = sliceV P t True none (some b) v := rfl
@[go_sem] theorem slV_lo (t : TypeId) (v a : AV) : slV P t (some v) (some (some a)) none = sliceV P t True (some a) none v := rfl
@[go_sem] theorem pv_slice (t : TypeId) (x : Operand) (lo hi : Option Operand) : pv P G H env σ (.slice t x lo hi none) = slV P t (opA G env x) (lo.map (opA G env)) (hi.map (opA G env)) := rfl
def bldV (P : Program) (t : TypeId) : Option (List (Nat × AV)) → Option (Prop × AV)
  | some vs => (buildV P t vs).map fun v => (True, v)
  | none => none
@[go_sem] theorem bldV_some (t : TypeId) (vs : List (Nat × AV)) : bldV P t (some vs) = (buildV P t vs).map fun v => (True, v) := rfl
@[go_sem] theorem pv_build (t : TypeId) (ps : Array (Nat × Operand)) : pv P G H env σ (.build t ps) = bldV P t (opParts G env ps.toList) := by simp only [pv]; cases opParts G env ps.toList <;> rfl
def mkfV (f : FuncId) : Option (List AV) → Option (Prop × AV)
  | some vs => (capsL vs).map fun cs => (True, .l (.fn f cs))
  | none => none
@[go_sem] theorem mkfV_some (f : FuncId) (vs : List AV) : mkfV f (some vs) = (capsL vs).map fun cs => (True, .l (.fn f cs)) := rfl
def mkmV (f : FuncId) : Option (List AV) → Option (Prop × AV)
  | some [.l (.ptr i o)] => some (True, .l (.mfn f i o))
  | _ => none
@[go_sem] theorem mkmV_some (f : FuncId) (i o : Nat) : mkmV f (some [.l (.ptr i o)]) = some (True, .l (.mfn f i o)) := rfl
@[go_sem] theorem pv_makeFuncM (f : FuncId) (x : Operand) : pv P G H env σ (.makeFunc (.func f) #[x] #[]) = mkmV f (opAll G env [x]) := by
  simp only [pv]
  rw [if_neg (by simp)]
  generalize hz : opAll G env (#[x] : Array Operand).toList = z
  clear hz
  unfold mkmV
  cases z with
  | none => rfl
  | some vs =>
    match vs with
    | [] => rfl
    | [.l x] => cases x <;> rfl
    | [.agg _] => rfl
    | [.tup _] => rfl
    | [.ifb _ _] => rfl
    | [.undef] => rfl
    | .l x :: _ :: _ => cases x <;> rfl
    | .agg _ :: _ :: _ => rfl
    | .tup _ :: _ :: _ => rfl
    | .ifb _ _ :: _ :: _ => rfl
    | .undef :: _ :: _ => rfl
@[go_sem] theorem pv_makeFunc (f : FuncId) (caps : Array Operand) : pv P G H env σ (.makeFunc (.func f) #[] caps) = mkfV f (opAll G env caps.toList) := by simp only [pv]; cases opAll G env caps.toList <;> rfl
@[go_sem] theorem pv_built1 (b : Builtin) (x : Operand) (t : TypeId) : pv P G H env σ (.call { callee := .builtin b, args := #[x], argTypes := #[t] }) = on1 (fun S v => builtinV P b t S [v]) (opU G env x) := by simp only [pv]; cases opU G env x <;> rfl
@[go_sem] theorem pv_built2 (b : Builtin) (x y : Operand) (t t' : TypeId) : pv P G H env σ (.call { callee := .builtin b, args := #[x, y], argTypes := #[t, t'] }) = on2 (fun S v u => builtinV P b t S [v, u]) (opU G env x) (opU G env y) := by simp only [pv]; cases opU G env x <;> cases opU G env y <;> rfl
@[go_sem] theorem pv_callV (x : Operand) (args : Array Operand) (ts : Array TypeId) : pv P G H env σ (.call { callee := .value x, args := args, argTypes := ts }) = none := rfl
@[go_sem] theorem pv_alloc (t : TypeId) : pv P G H env σ (.alloc t) = none := rfl
@[go_sem] theorem pv_box (t : TypeId) (x : Operand) : pv P G H env σ (.box t x) = none := rfl
@[go_sem] theorem pv_store (t : TypeId) (x y : Operand) : pv P G H env σ (.store t x y) = none := rfl
@[go_sem] theorem pv_buildSlice (t : TypeId) (n : Nat) (ps : Array (Nat × Operand)) : pv P G H env σ (.buildSlice t n ps) = none := rfl
end
section
variable {P : Program} (t : TypeId) (S : Prop) (k : IntKind) (a b : Int)
@[go_sem] theorem binV_int (op : BinOp) (k' : IntKind) : binV P op t S (.l (.int k a)) (.l (.int k' b)) = binI op k a k' b S := rfl
@[go_sem] theorem binI_shl (k' : IntKind) : binI .shl k a k' b S = some ((S ∧ 0 ≤ b), .l (.int k (k.wrap (a * 2 ^ min b.toNat k.bits)))) := rfl
@[go_sem] theorem binI_shr (k' : IntKind) : binI .shr k a k' b S = some ((S ∧ 0 ≤ b), .l (.int k (a.fdiv (2 ^ min b.toNat k.bits)))) := rfl
@[go_sem] theorem binI_add : binI .add k a k b S = some (S, .l (.int k (k.wrap (a + b)))) := by simp [binI]
@[go_sem] theorem binI_sub : binI .sub k a k b S = some (S, .l (.int k (k.wrap (a - b)))) := by simp [binI]
@[go_sem] theorem binI_mul : binI .mul k a k b S = some (S, .l (.int k (k.wrap (a * b)))) := by simp [binI]
@[go_sem] theorem binI_quo : binI .quo k a k b S = some ((S ∧ b ≠ 0), .l (.int k (k.wrap (a.tdiv b)))) := by simp [binI]
@[go_sem] theorem binI_rem : binI .rem k a k b S = some ((S ∧ b ≠ 0), .l (.int k (a.tmod b))) := by simp [binI]
@[go_sem] theorem binI_and : binI .and k a k b S = some (S, .l (.int k (bits .and k a b))) := by simp [binI]
@[go_sem] theorem binI_or : binI .or k a k b S = some (S, .l (.int k (bits .or k a b))) := by simp [binI]
@[go_sem] theorem binI_xor : binI .xor k a k b S = some (S, .l (.int k (bits .xor k a b))) := by simp [binI]
@[go_sem] theorem binI_andNot : binI .andNot k a k b S = some (S, .l (.int k (bits .andNot k a b))) := by simp [binI]
@[go_sem] theorem binI_eql : binI .eql k a k b S = some (S, .l (.bool (decide (a = b)))) := by simp [binI]
@[go_sem] theorem binI_neq : binI .neq k a k b S = some (S, .l (.bool (!decide (a = b)))) := by simp [binI]
@[go_sem] theorem binI_lss : binI .lss k a k b S = some (S, .l (.bool (decide (a < b)))) := by simp [binI]
@[go_sem] theorem binI_leq : binI .leq k a k b S = some (S, .l (.bool (decide (a ≤ b)))) := by simp [binI]
@[go_sem] theorem binI_gtr : binI .gtr k a k b S = some (S, .l (.bool (decide (b < a)))) := by simp [binI]
@[go_sem] theorem binI_geq : binI .geq k a k b S = some (S, .l (.bool (decide (b ≤ a)))) := by simp [binI]
@[go_sem] theorem binV_bool (op : BinOp) (p q : Bool) : binV P op t S (.l (.bool p)) (.l (.bool q)) = (match P.underlying t, op with
    | some .bool, .eql => some (S, .l (.bool (p == q)))
    | some .bool, .neq => some (S, .l (.bool (!(p == q))))
    | _, _ => none) := rfl
@[go_sem] theorem binV_str (op : BinOp) (p q : List Int) : binV P op t S (.l (.str p)) (.l (.str q)) = (match op with
    | .eql => some (S, .l (.bool (decide (p = q))))
    | .neq => some (S, .l (.bool (!decide (p = q))))
    | _ => none) := rfl
@[go_sem] theorem binV_ptrnil (op : BinOp) (i o : Nat) : binV P op t S (.l (.ptr i o)) (.l .nilp) = (match P.underlying t, op with
    | some (.pointer _), .eql => some (S, .l (.bool false))
    | some (.pointer _), .neq => some (S, .l (.bool true))
    | _, _ => none) := rfl
@[go_sem] theorem binV_nilnil (op : BinOp) : binV P op t S (.l .nilp) (.l .nilp) = (match P.underlying t, op with
    | some (.pointer _), .eql => some (S, .l (.bool true))
    | some (.pointer _), .neq => some (S, .l (.bool false))
    | _, _ => none) := rfl
@[go_sem] theorem binV_agg (op : BinOp) (xs ys : List LV) : binV P op t S (.agg xs) (.agg ys) = (if flatEq P t = true ∧ xs.length = szT P t ∧ ys.length = szT P t then (match eqCells xs ys, op with
    | some r, .eql => some (S, .l (.bool r))
    | some r, .neq => some (S, .l (.bool (!r)))
    | _, _ => none) else none) := rfl
@[go_sem] theorem loadV_ptr (H : Nat → Bool) (σ : List Blk) (i o : Nat) : loadV P H t σ (.l (.ptr i o)) = if H i = true then (match σ[i]? with | some B => readV P t B.cells o | none => none) else none := rfl
@[go_sem] theorem loadV_eptr (H : Nat → Bool) (σ : List Blk) (c : List LV) (o : Nat) : loadV P H t σ (.l (.eptr c o)) = readV P t c o := rfl
@[go_sem] theorem fieldAddrV_ptr (f i o : Nat) : fieldAddrV P t f S (.l (.ptr i o)) = (match fieldT P t f with
    | some (p, s, _) => if s = 0 then none else some (S, .l (.ptr i (o + p)))
    | none => none) := rfl
@[go_sem] theorem fieldAddrV_eptr (f : Nat) (c : List LV) (o : Nat) : fieldAddrV P t f S (.l (.eptr c o)) = (match fieldT P t f with
    | some (p, s, _) => if s = 0 then none else some (S, .l (.eptr c (o + p)))
    | none => none) := rfl
@[go_sem] theorem convV_int (u : TypeId) : convV P t u S (.l (.int k a)) = (match intT P t, intT P u with
    | some _, some k' => some (S, .l (.int k' (k'.wrap a)))
    | _, _ => none) := rfl
@[go_sem] theorem convV_slice (u : TypeId) (own : Own) (sz : Nat) (e : List (List LV)) : convV P t u S (.l (.slice own sz e)) = (match P.underlying t, P.underlying u with
    | some (.slice et), some .string => if intT P et = some .u8 then some ((S ∧ ∀ c ∈ e, ∃ n : Int, c = [.int .u8 n] ∧ 0 ≤ n ∧ n < 256), .l (.str (e.map byteOf))) else none
    | _, _ => none) := rfl
@[go_sem] theorem unV_not (p : Bool) : unV .not S (.l (.bool p)) = some (S, .l (.bool (!p))) := rfl
end
attribute [go_sem] opR opA opU envGet envPut AV.un AV.cellsL constA constL Option.map Option.bind opAll opParts envOf builtinV fieldV arrAddrV indexV sliceV readV eqCells gvalT mkIfb partsSh shAll LV.sh capsL buildV fillL fillArr spliceL
  List.getElem?_cons_zero List.getElem?_cons_succ List.length_cons List.length_nil List.nil_append List.cons_append List.append_nil List.set_cons_zero List.set_cons_succ List.map_cons List.map_nil List.getElem?_nil
  and_self Bool.not_eq_true' Bool.not_eq_false' imp_self List.getElem?_toArray cond_true cond_false Bool.not_true Bool.not_false Bool.not_not Bool.cond_true_left Bool.cond_false_right Bool.false_and Bool.true_or Bool.false_or Bool.true_and Bool.and_true Bool.or_false true_and and_true if_true if_false Bool.false_eq_true ite_true ite_false
end Go.Abs
