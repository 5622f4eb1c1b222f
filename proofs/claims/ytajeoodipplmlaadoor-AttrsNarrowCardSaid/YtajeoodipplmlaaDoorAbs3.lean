/-
  THE ABSTRACT OPERATIONS: what an operation of the model's code does to abstract values, variables and rows. Definitions alone.
-/
import Derived.Test.YtajeoodipplmlaaDoorAbs2
set_option linter.all false
namespace Go.Abs
open Go Go.RowKit

inductive AV where
  | l (x : LV)
  | agg (cells : List LV)
  | tup (xs : List AV)
  | ifb (c : Bool) (v : AV)
  | undef

/-- A guarded value: its guard, and what it is. -/
def AV.un : AV → Bool × AV
  | .ifb c v => (c, v)
  | v => (true, v)

def AV.cellsL : AV → Option (List LV)
  | .l x => some [x]
  | .agg cs => some cs
  | _ => none

/-- A value as it may stand in a row: what it leads to is no more its own. -/
def LV.sh : LV → Option LV
  | .ptr _ _ => none
  | .eptr _ _ => none
  | .fn _ _ => none
  | .mfn _ _ _ => none
  | .vsl _ _ _ _ => none
  | .slice _ sz e => some (.slice .shared sz e)
  | .int k n => some (.int k n)
  | .bool b => some (.bool b)
  | .str l => some (.str l)
  | .nilp => some .nilp

def shAll : List LV → Option (List LV)
  | [] => some []
  | x :: xs => match x.sh, shAll xs with
    | some y, some ys => some (y :: ys)
    | _, _ => none

abbrev Env := List (Nat × AV)
def envGet : Env → Nat → Option AV
  | [], _ => none
  | (k, v) :: e, t => if k = t then some v else envGet e t
def envPut (d : Option Tmp) (v : AV) (e : Env) : Env :=
  match d with
  | some d => (d, v) :: e
  | none => e

def constL : Value → Option LV
  | .int k n => some (.int k n)
  | .bool b => some (.bool b)
  | .string s => some (.str (strInts s))
  | .pointer none => some .nilp
  | .slice none 0 0 => some (.slice .cap0 0 [])
  | _ => none
def constA (v : Value) : Option AV := (constL v).map .l

/-- A guarded value whose guard held. -/
def unI : AV → AV
  | .ifb c v => cond c v (.ifb c v)
  | x => x
def opR (G : Nat → Option (List LV)) (env : Env) : Operand → Option AV
  | .tmp t => envGet env t
  | .const v => constA v
  | .global g => (G g).map fun cells => .l (.eptr cells 0)
  | .func f => some (.l (.fn f []))
def opA (G : Nat → Option (List LV)) (env : Env) (x : Operand) : Option AV := (opR G env x).map unI
def opU (G : Nat → Option (List LV)) (env : Env) (x : Operand) : Option (Bool × AV) := (opR G env x).map AV.un

/-! ### What the program's table of types says -/
def szT (P : Program) (t : TypeId) : Nat := ((P.info? t).map (·.size)).getD 0
def bytesT (P : Program) (t : TypeId) : Nat := ((P.info? t).map (·.bytes)).getD 0
def aggD : Option TypeDesc → Bool
  | some (.struct _) => true
  | some (.array _ _) => true
  | _ => false
def aggT (P : Program) (t : TypeId) : Bool := aggD (P.underlying t)
def elemD : Option TypeDesc → Option TypeId
  | some (.slice e) => some e
  | _ => none
def elemT (P : Program) (t : TypeId) : Option TypeId := elemD (P.underlying t)
def arrD : Option TypeDesc → Option (Nat × TypeId)
  | some (.array n e) => some (n, e)
  | _ => none
def arrT (P : Program) (t : TypeId) : Option (Nat × TypeId) := arrD (P.underlying t)
def intD : Option TypeDesc → Option IntKind
  | some (.int k) => some k
  | _ => none
def intT (P : Program) (t : TypeId) : Option IntKind := intD (P.underlying t)
/-- A field's place and size. -/
def fieldD (P : Program) (i : Nat) : Option TypeDesc → Option (Nat × Nat × TypeId)
  | some (.struct fs) => (fs[i]?).map fun f => (f.offset, szT P f.type, f.type)
  | _ => none
def fieldT (P : Program) (t : TypeId) (i : Nat) : Option (Nat × Nat × TypeId) := fieldD P i (P.underlying t)

/-- The cells of a type's zero value; 'e' tells an element's size of a slice that is nil. -/
def zeroL (e : Nat) : Value → Option LV
  | .slice none 0 0 => some (.slice .cap0 e [])
  | v => constL v
def zeroLs : List Nat → List Value → Option (List LV)
  | _, [] => some []
  | es, v :: vs => match zeroL (es.headD 0) v, zeroLs es.tail vs with
    | some x, some xs => some (x :: xs)
    | _, _ => none
/-- The size of an element, for each cell of a type. -/
def elemSizes (P : Program) : Nat → TypeId → List Nat
  | 0, _ => []
  | d + 1, t => match P.underlying t with
    | some (.struct fs) => fs.toList.flatMap fun f => elemSizes P d f.type
    | some (.array n e) => (List.replicate n (elemSizes P d e)).flatten
    | some (.slice e) => [szT P e]
    | _ => [0]
def zeroA (P : Program) (t : TypeId) : Option (List LV) :=
  match (P.info? t).bind (·.zero) with
  | some z => zeroLs (elemSizes P 8 t) z.cells.toList
  | none => none

/-! ### Operations that only reckon -/
def spliceL (cells : List LV) (off : Nat) (vs : List LV) : List LV := cells.take off ++ vs ++ cells.drop (off + vs.length)

def readV (P : Program) (t : TypeId) (cells : List LV) (off : Nat) : Option AV :=
  match P.underlying t with
  | none => none
  | some d => if aggD (some d) = true then (if off + szT P t ≤ cells.length then some (.agg ((cells.drop off).take (szT P t))) else none)
    else (cells[off]?).map .l

def loadV (P : Program) (H : Nat → Bool) (t : TypeId) (σ : List Blk) : AV → Option AV
  | .l (.ptr i off) => if H i = true then (match σ[i]? with | some B => readV P t B.cells off | none => none) else none
  | .l (.eptr cells off) => readV P t cells off
  | _ => none

def binI (op : BinOp) (k : IntKind) (a : Int) (k' : IntKind) (b : Int) (S : Prop) : Option (Prop × AV) :=
  match op with
  | .shl => some ((S ∧ 0 ≤ b), .l (.int k (k.wrap (a * 2 ^ min b.toNat k.bits))))
  | .shr => some ((S ∧ 0 ≤ b), .l (.int k (a.fdiv (2 ^ min b.toNat k.bits))))
  | .add => if k = k' then some (S, .l (.int k (k.wrap (a + b)))) else none
  | .sub => if k = k' then some (S, .l (.int k (k.wrap (a - b)))) else none
  | .mul => if k = k' then some (S, .l (.int k (k.wrap (a * b)))) else none
  | .quo => if k = k' then some ((S ∧ b ≠ 0), .l (.int k (k.wrap (a.tdiv b)))) else none
  | .rem => if k = k' then some ((S ∧ b ≠ 0), .l (.int k (a.tmod b))) else none
  | .and => if k = k' then some (S, .l (.int k (bits .and k a b))) else none
  | .or => if k = k' then some (S, .l (.int k (bits .or k a b))) else none
  | .xor => if k = k' then some (S, .l (.int k (bits .xor k a b))) else none
  | .andNot => if k = k' then some (S, .l (.int k (bits .andNot k a b))) else none
  | .eql => if k = k' then some (S, .l (.bool (decide (a = b)))) else none
  | .neq => if k = k' then some (S, .l (.bool (!decide (a = b)))) else none
  | .lss => if k = k' then some (S, .l (.bool (decide (a < b)))) else none
  | .leq => if k = k' then some (S, .l (.bool (decide (a ≤ b)))) else none
  | .gtr => if k = k' then some (S, .l (.bool (decide (b < a)))) else none
  | .geq => if k = k' then some (S, .l (.bool (decide (b ≤ a)))) else none

/-- '==' of two lists of cells that hold numbers. -/
def eqCells : List LV → List LV → Option Bool
  | [], [] => some true
  | .int k a :: xs, .int k' b :: ys => if k = k' then (eqCells xs ys).map fun r => decide (a = b) && r else none
  | _, _ => none
/-- A type whose '==' is that of its cells: a struct of numbers, an array of three numbers. -/
def leafD : Option TypeDesc → Bool
  | some (.int _) => true
  | _ => false
def flatFields (P : Program) : List Field → Nat → Bool
  | [], _ => true
  | f :: fs, o => f.name != "_" && f.offset == o && leafD (P.underlying f.type) && szT P f.type == 1 && flatFields P fs (o + 1)
def flatEq (P : Program) (t : TypeId) : Bool :=
  !P.eqGuardType P.depth t && match P.underlying t with
  | some (.struct fs) => !P.stoodInHeld t && flatFields P fs.toList 0 && fs.size == szT P t
  | some (.array n e) => leafD (P.underlying e) && szT P e == 1 && n == 3 && szT P t == 3
  | _ => false

def binV (P : Program) (op : BinOp) (t : TypeId) (S : Prop) : AV → AV → Option (Prop × AV)
  | .l (.int k a), .l (.int k' b) => binI op k a k' b S
  | .l (.bool a), .l (.bool b) => match P.underlying t, op with
    | some .bool, .eql => some (S, .l (.bool (a == b)))
    | some .bool, .neq => some (S, .l (.bool (!(a == b))))
    | _, _ => none
  | .l (.str a), .l (.str b) => match op with
    | .eql => some (S, .l (.bool (decide (a = b))))
    | .neq => some (S, .l (.bool (!decide (a = b))))
    | _ => none
  | .l (.ptr _ _), .l .nilp => match P.underlying t, op with
    | some (.pointer _), .eql => some (S, .l (.bool false))
    | some (.pointer _), .neq => some (S, .l (.bool true))
    | _, _ => none
  | .l .nilp, .l .nilp => match P.underlying t, op with
    | some (.pointer _), .eql => some (S, .l (.bool true))
    | some (.pointer _), .neq => some (S, .l (.bool false))
    | _, _ => none
  | .agg xs, .agg ys => if flatEq P t = true ∧ xs.length = szT P t ∧ ys.length = szT P t then (match eqCells xs ys, op with
    | some r, .eql => some (S, .l (.bool r))
    | some r, .neq => some (S, .l (.bool (!r)))
    | _, _ => none) else none
  | _, _ => none

def byteOf : List LV → Int
  | [.int _ n] => n
  | _ => 0

def convV (P : Program) (src dst : TypeId) (S : Prop) : AV → Option (Prop × AV)
  | .l (.int _ n) => match intT P src, intT P dst with
    | some _, some k => some (S, .l (.int k (k.wrap n)))
    | _, _ => none
  | .l (.slice _ _ e) => match P.underlying src, P.underlying dst with
    | some (.slice et), some .string => if intT P et = some .u8 then some ((S ∧ ∀ c ∈ e, ∃ n : Int, c = [.int .u8 n] ∧ 0 ≤ n ∧ n < 256), .l (.str (e.map byteOf))) else none
    | _, _ => none
  | _ => none

def unV (op : UnOp) (S : Prop) : AV → Option (Prop × AV)
  | .l (.bool b) => match op with
    | .not => some (S, .l (.bool (!b)))
    | _ => none
  | _ => none

def fieldAddrV (P : Program) (t : TypeId) (f : Nat) (S : Prop) : AV → Option (Prop × AV)
  | .l (.ptr i off) => match fieldT P t f with
    | some (o, s, _) => if s = 0 then none else some (S, .l (.ptr i (off + o)))
    | none => none
  | .l (.eptr cells off) => match fieldT P t f with
    | some (o, s, _) => if s = 0 then none else some (S, .l (.eptr cells (off + o)))
    | none => none
  | _ => none

def fieldV (P : Program) (t : TypeId) (f : Nat) (S : Prop) : AV → Option (Prop × AV)
  | .agg cells => match fieldT P t f with
    | some (o, _, ft) => (readV P ft cells o).map fun v => (S, v)
    | none => none
  | _ => none

def arrAddrV (P : Program) (t : TypeId) (S : Prop) : AV → AV → Option (Prop × AV)
  | .l (.ptr i off), .l (.int _ n) => match arrT P t with
    | some (len, e) => if 1 < len ∧ 0 < szT P e then some ((S ∧ 0 ≤ n ∧ n < len), .l (.ptr i (off + n.toNat * szT P e))) else none
    | none => none
  | .l (.eptr cells off), .l (.int _ n) => match arrT P t with
    | some (len, e) => if 1 < len ∧ 0 < szT P e then some ((S ∧ 0 ≤ n ∧ n < len), .l (.eptr cells (off + n.toNat * szT P e))) else none
    | none => none
  | _, _ => none

def indexV (P : Program) (t : TypeId) (S : Prop) : AV → AV → Option (Prop × AV)
  | .agg cells, .l (.int _ n) => match arrT P t with
    | some (len, e) => if aggT P e = false ∧ szT P e = 1 ∧ (P.underlying e).isSome = true then (cells[n.toNat]?).map fun x => ((S ∧ 0 ≤ n ∧ n < len), .l x) else none
    | none => none
  | _, _ => none

def sliceV (P : Program) (t : TypeId) (S : Prop) (lo hi : Option AV) : AV → Option (Prop × AV)
  | .l (.slice _ sz e) => match elemT P t, lo, hi with
    | some et, some (.l (.int _ a)), some (.l (.int _ b)) => if szT P et = sz ∧ 0 < sz then some ((S ∧ 0 ≤ a ∧ a ≤ b ∧ b ≤ (e.length : Int)), .l (.slice .shared sz ((e.drop a.toNat).take (b.toNat - a.toNat)))) else none
    | some et, none, some (.l (.int _ b)) => if szT P et = sz ∧ 0 < sz then some ((S ∧ 0 ≤ b ∧ b ≤ (e.length : Int)), .l (.slice .shared sz (e.take b.toNat))) else none
    | some et, some (.l (.int _ a)), none => if szT P et = sz ∧ 0 < sz then some ((S ∧ 0 ≤ a ∧ a ≤ (e.length : Int)), .l (.slice .shared sz (e.drop a.toNat))) else none
    | _, _, _ => none
  | _ => none

/-- Parts laid into cells, at their fields' places. -/
def fillL (P : Program) (t : TypeId) (cells : List LV) : List (Nat × AV) → Option (List LV)
  | [] => some cells
  | (i, v) :: rest => match fieldT P t i, v.cellsL with
    | some (o, s, _), some vs => if vs.length = s ∧ o + s ≤ cells.length then fillL P t (spliceL cells o vs) rest else none
    | _, _ => none
def fillArr (sz : Nat) (cells : List LV) : List (Nat × AV) → Option (List LV)
  | [] => some cells
  | (i, v) :: rest => match v.cellsL with
    | some vs => if vs.length = sz ∧ i * sz + sz ≤ cells.length then fillArr sz (spliceL cells (i * sz) vs) rest else none
    | none => none

def opAll (G : Nat → Option (List LV)) (env : Env) : List Operand → Option (List AV)
  | [] => some []
  | x :: xs => match opA G env x, opAll G env xs with
    | some v, some vs => some (v :: vs)
    | _, _ => none
def opParts (G : Nat → Option (List LV)) (env : Env) : List (Nat × Operand) → Option (List (Nat × AV))
  | [] => some []
  | (i, x) :: xs => match opA G env x, opParts G env xs with
    | some v, some vs => some ((i, v) :: vs)
    | _, _ => none

/-- The types of a type's parts are all known. -/
def placesOk (P : Program) (t : TypeId) : Bool :=
  match P.underlying t with
  | some (.struct fs) => (fs.toList.mapM (fun f => (P.info? f.type).map fun i => (f.offset, i.size))).isSome
  | some (.array _ e) => (P.info? e).isSome
  | _ => false
def buildV (P : Program) (t : TypeId) (parts : List (Nat × AV)) : Option AV :=
  if placesOk P t = true then match zeroA P t with
  | none => none
  | some z => match arrT P t with
    | some (_, e) => (fillArr (szT P e) z parts).map .agg
    | none => if aggT P t = true then (fillL P t z parts).map .agg else none
  else none

def capsL : List AV → Option (List (Nat × Nat))
  | [] => some []
  | .l (.ptr i o) :: xs => (capsL xs).map fun r => (i, o) :: r
  | _ => none

def builtinV (P : Program) (b : Builtin) (t : TypeId) (S : Prop) : List AV → Option (Prop × AV)
  | [.l (.slice _ _ e)] => match b, P.underlying t with
    | .len, some (.slice _) => some (S, .l (.int .i64 e.length))
    | _, _ => none
  | [.l (.vsl _ _ _ len)] => match b, P.underlying t with
    | .len, some (.slice _) => some (S, .l (.int .i64 len))
    | _, _ => none
  | [.l (.str s)] => match b, P.underlying t with
    | .len, some .string => some (S, .l (.int .i64 s.length))
    | _, _ => none
  | [.l (.int k a), .l (.int k' c)] => if k = k' then (match b with
    | .max => some (S, .l (.int k (if c > a then c else a)))
    | .min => some (S, .l (.int k (if c < a then c else a)))
    | _ => none) else none
  | _ => none

/-- An operation that leaves the world as it is: what it asks, and its value. -/
def pv (P : Program) (G : Nat → Option (List LV)) (H : Nat → Bool) (env : Env) (σ : List Blk) : Op → Option (Prop × AV)
  | .move x => (opR G env x).map fun v => (True, v)
  | .assign x => (opR G env x).map fun v => (True, v)
  | .pick c x y => match opU G env c, opU G env x, opU G env y with
    | some (gc, .l (.bool c)), some (gx, .l (.bool p)), some (gy, .l (.bool q)) => some ((gc = true ∧ (c = true → gx = true) ∧ (c = false → gy = true)), .l (.bool (cond c p q)))
    | _, _, _ => none
  | .load t x => match opU G env x with
    | some (g, v) => (loadV P H t σ v).map fun u => (g = true, u)
    | none => none
  | .nilCheck x => match opU G env x with
    | some (g, .l (.ptr i o)) => some (g = true, .l (.ptr i o))
    | some (g, .l (.eptr cells o)) => some (g = true, .l (.eptr cells o))
    | some (g, .l (.fn f caps)) => some (g = true, .l (.fn f caps))
    | some (g, .l (.mfn f i o)) => some (g = true, .l (.mfn f i o))
    | _ => none
  | .binOp op t x y _ => match opU G env x, opU G env y with
    | some (g, a), some (h, b) => binV P op t (g = true ∧ h = true) a b
    | _, _ => none
  | .unOp op _ x => match opU G env x with
    | some (g, a) => unV op (g = true) a
    | none => none
  | .convert src dst x => match opU G env x with
    | some (g, a) => convV P src dst (g = true) a
    | none => none
  | .fieldAddr t x f => match opU G env x with
    | some (g, a) => fieldAddrV P t f (g = true) a
    | none => none
  | .field t x f => match opU G env x with
    | some (g, a) => fieldV P t f (g = true) a
    | none => none
  | .indexAddr t x i => match opU G env x, opU G env i with
    | some (g, a), some (h, b) => arrAddrV P t (g = true ∧ h = true) a b
    | _, _ => none
  | .index t x i => match opU G env x, opU G env i with
    | some (g, a), some (h, b) => indexV P t (g = true ∧ h = true) a b
    | _, _ => none
  | .extract x i => match opA G env x with
    | some (.tup vs) => (vs[i]?).map fun v => (True, v)
    | _ => none
  | .slice t x lo hi none => match opA G env x, lo.map (opA G env), hi.map (opA G env) with
    | some v, some (some a), some (some b) => sliceV P t True (some a) (some b) v
    | some v, none, some (some b) => sliceV P t True none (some b) v
    | some v, some (some a), none => sliceV P t True (some a) none v
    | _, _, _ => none
  | .build t parts => match opParts G env parts.toList with
    | some vs => (buildV P t vs).map fun v => (True, v)
    | none => none
  | .makeFunc (.func f) first caps => if first.size = 0 then (match opAll G env caps.toList with
    | some vs => (capsL vs).map fun cs => (True, .l (.fn f cs))
    | none => none) else (match opAll G env first.toList, caps.toList with
    | some [.l (.ptr i o)], [] => some (True, .l (.mfn f i o))
    | _, _ => none)
  | .call c => match c.callee, c.args.toList, c.argTypes.toList with
    | .builtin b, [x], t :: _ => (match opU G env x with
      | some (g, v) => builtinV P b t (g = true) [v]
      | none => none)
    | .builtin b, [x, y], t :: _ => (match opU G env x, opU G env y with
      | some (g, v), some (h, u) => builtinV P b t (g = true ∧ h = true) [v, u]
      | _, _ => none)
    | _, _, _ => none
  | _ => none

/-- Operations that look at no memory. -/
def memFree : Op → Bool
  | .load _ _ => false
  | .convert _ _ _ => false
  | _ => true

def Rep1 (X : Ctx) : AV → Value → Prop
  | .l x, r => RepL X x r
  | .agg cells, r => ∃ rs : Array Value, r = .agg rs ∧ rs.size = cells.length ∧ ∀ (j : Nat) (x : LV), cells[j]? = some x → ∃ u, rs[j]? = some u ∧ RepL X x u
  | .undef, r => r = Go.undef
  | _, _ => False
def RepV (X : Ctx) : AV → Value → Prop
  | .tup xs, r => ∃ rs : Array Value, r = .tuple rs ∧ rs.size = xs.length ∧ ∀ (j : Nat) (x : AV), xs[j]? = some x → ∃ u, rs[j]? = some u ∧ Rep1 X x u
  | .ifb c v, r => (c = true → Rep1 X v r) ∧ (c = false → r = Go.undef)
  | x, r => Rep1 X x r

def EnvOk (X : Ctx) (n : Nat) (env : Env) (a : Act) : Prop :=
  a.defers = [] ∧ a.tmps.size = n ∧ ∀ t v, envGet env t = some v → ∃ r, a.tmps[t]? = some r ∧ RepV X v r

/-- A value behind a guard. -/
def mkIfb (g : Bool) : AV → Option AV
  | .tup _ => none
  | .ifb c v => some (.ifb (g && c) v)
  | v => some (.ifb g v)

def callable (P : Program) (f : FuncId) : Bool :=
  match P.funcs[f]? with
  | some fn => fn.name != "runtime.NumGoroutine" && fn.body.isSome
  | none => false

def HeldEq (H : Nat → Bool) (X X' : Ctx) : Prop := ∀ (i b : Nat), X.mu[i]? = some b → H i = true → X'.w.heap[b]? = X.w.heap[b]?

/-- A call: with these arguments, variables and rows, and 'H' the variables that it leaves as they are, it comes to what 'K' says. -/
def ACK (P : Program) (G : Nat → Option (List LV)) (H : Nat → Bool) (f : FuncId) (args : List AV) (σ : List Blk) (R : RowsA) (K : AV → List Blk → RowsA → Prop) : Prop :=
  callable P f = true ∧ ∀ (X : Ctx) (argsV : Array Value), Inv G X σ R → argsV.size = args.length → (∀ (j : Nat) (x : AV), args[j]? = some x → ∃ u, argsV[j]? = some u ∧ RepV X x u) →
    Calls P f argsV X.w fun e w' => ∃ res r σ' R' X', e = .returned r ∧ K res σ' R' ∧ X'.w = w' ∧ Evo X X' ∧ HeldEq H X X' ∧ Inv G X' σ' R' ∧ RepV X' res r

/-- A type's zero value has as many cells as the type. -/
def zeroOk (P : Program) (t : TypeId) : Bool :=
  match (P.info? t).bind (·.zero) with
  | some z => z.cells.size == szT P t
  | none => false

def maxBytes : Nat := 140737488355328

/-- What 'append' does. -/
def appendA (P : Program) (t : TypeId) (σ : List Blk) (R : RowsA) (K : AV → List Blk → RowsA → Prop) : AV → AV → Prop
  | .l (.slice (.row i) sz e), .l (.slice _ sz' e') => match elemT P t with
    | some et => zeroOk P et = true ∧ R[i]? = some (et, e.length) ∧ szT P et = sz ∧ (sz' = sz ∨ e' = []) ∧ 0 < sz ∧ (e.length + e'.length) * bytesT P et ≤ maxBytes ∧ e.length + e'.length ≤ maxLen ∧
        K (.l (.slice (.row i) sz (e ++ e'))) σ (R.set i (et, e.length + e'.length))
    | none => False
  | .l (.slice .cap0 _ e), .l (.slice _ sz' e') => match elemT P t with
    | some et => zeroOk P et = true ∧ e = [] ∧ (sz' = szT P et ∨ e' = []) ∧ 0 < szT P et ∧ e'.length * bytesT P et ≤ maxBytes ∧ e'.length ≤ maxLen ∧
        K (.l (.slice (.row R.length) (szT P et) e')) σ (R ++ [(et, e'.length)])
    | none => False
  | _, _ => False

def partsSh (sz : Nat) : Nat → List (Nat × AV) → Option (List (List LV))
  | _, [] => some []
  | k, (i, v) :: rest => match v.cellsL with
    | some vs => (match shAll vs, partsSh sz (k + 1) rest with
      | some ys, some r => if i = k ∧ vs.length = sz then some (ys :: r) else none
      | _, _ => none)
    | none => none

/-- Parts that may lead to variables: they are laid in a variable. -/
def partsV (sz : Nat) : Nat → List (Nat × AV) → Option (List LV)
  | _, [] => some []
  | k, (i, v) :: rest => match v.cellsL with
    | some vs => (match partsV sz (k + 1) rest with
      | some r => if i = k ∧ vs.length = sz then some (vs ++ r) else none
      | none => none)
    | none => none

/-- An operation, whatever it does. 'Hl': the variables that may be read; 'He': those that must stay as they are. -/
def aop (P : Program) (G : Nat → Option (List LV)) (Hl He : Nat → Bool) (env : Env) (σ : List Blk) (R : RowsA) (K : AV → List Blk → RowsA → Prop) : Op → Prop
  | .alloc t => match zeroA P t with
    | some cs => K (.l (.ptr σ.length 0)) (σ ++ [⟨t, cs⟩]) R
    | none => False
  | .box t x => match (opA G env x).bind AV.cellsL with
    | some cs => cs.length = szT P t ∧ K (.l (.ptr σ.length 0)) (σ ++ [⟨t, cs⟩]) R
    | none => False
  | .store t x y => match opA G env x, (opA G env y).bind AV.cellsL with
    | some (.l (.ptr i off)), some vs => (match σ[i]? with
      | some B => He i = false ∧ 0 < vs.length ∧ vs.length = szT P t ∧ off + vs.length ≤ B.cells.length ∧ K .undef (σ.set i ⟨B.T, spliceL B.cells off vs⟩) R
      | none => False)
    | _, _ => False
  | .buildSlice t len parts => match elemT P t, opParts G env parts.toList with
    | some et, some vs => (match partsSh (szT P et) 0 vs with
      | some es => es.length = len ∧ len < 1000 ∧ 0 < szT P et ∧ szT P et < 1000 ∧ (match es with
        | [] => K (.l (.slice .cap0 (szT P et) [])) σ R
        | e :: es => zeroOk P et = true ∧ K (.l (.slice (.row R.length) (szT P et) (e :: es))) σ (R ++ [(et, len)]))
      | none => (match partsV (szT P et) 0 vs with
        | some cs => vs.length = len ∧ 0 < len ∧ len < 1000 ∧ 0 < szT P et ∧ szT P et < 1000 ∧ zeroOk P et = true ∧ K (.l (.vsl σ.length 0 (szT P et) len)) (σ ++ [⟨et, cs⟩]) R
        | none => False))
    | _, _ => False
  | .indexAddr t x i => match opA G env x, opA G env i with
    | some (.l (.slice _ sz e)), some (.l (.int _ n)) => (match elemT P t with
      | some et => szT P et = sz ∧ 0 < sz ∧ ∃ h : 0 ≤ n ∧ n.toNat < e.length, K (.l (.eptr (e[n.toNat]'h.2) 0)) σ R
      | none => False)
    | some (.l (.vsl i off sz len)), some (.l (.int _ n)) => (match elemT P t with
      | some et => szT P et = sz ∧ 0 < sz ∧ (0 ≤ n ∧ n.toNat < len) ∧ K (.l (.ptr i (off + n.toNat * sz))) σ R
      | none => False)
    | some a, some b => (match arrAddrV P t True a b with
      | some (S, v) => S ∧ K v σ R
      | none => False)
    | _, _ => False
  | .binOp op t x y yt => match opA G env x, opA G env y with
    | some (.l (.slice _ _ e)), some (.l (.slice .cap0 _ _)) => (match y, P.underlying t, op with
      | .const _, some (.slice _), .eql => (e = [] → K (.l (.bool true)) σ R) ∧ K (.l (.bool false)) σ R
      | .const _, some (.slice _), .neq => (e = [] → K (.l (.bool false)) σ R) ∧ K (.l (.bool true)) σ R
      | _, _, _ => False)
    | _, _ => (match pv P G Hl env σ (.binOp op t x y yt) with
      | some (S, v) => S ∧ K v σ R
      | none => False)
  | .call c => match c.callee with
    | .value x => (match opA G env x, opAll G env c.args.toList with
      | some (.l (.fn f caps)), some vs => ACK P G He f (vs ++ caps.map fun c => .l (.ptr c.1 c.2)) σ R K
      | some (.l (.mfn f i o)), some vs => ACK P G He f (.l (.ptr i o) :: vs) σ R K
      | _, _ => False)
    | .builtin .append => (match c.args.toList.map (opA G env), c.argTypes.toList with
      | [some s, some x], [t, t'] => t = t' ∧ appendA P t σ R K s x
      | _, _ => False)
    | _ => (match pv P G Hl env σ (.call c) with
      | some (S, v) => S ∧ K v σ R
      | none => False)
  | op => match pv P G Hl env σ op with
    | some (S, v) => S ∧ K v σ R
    | none => False

def AV.flat : AV → Bool
  | .tup _ => false
  | .ifb _ _ => false
  | _ => true
/-- A value, or that value behind a guard that held. -/
def Wid (K : AV → List Blk → RowsA → Prop) (v : AV) (σ : List Blk) (R : RowsA) : Prop := K v σ R ∨ (v.flat = true ∧ K (.ifb true v) σ R)
def WidV (K : AV → Prop) (v : AV) : Prop := K v ∨ (v.flat = true ∧ K (.ifb true v))
/-- What an operation leaves that was not wanted. -/
def AV.no : AV → Bool
  | .undef => true
  | .ifb c _ => !c
  | _ => false
/-- The guard of an operation, as a bool. -/
def gval (ops : Array Oper) (env : Env) (j : Nat) (want : Bool) : Option Bool :=
  match ((ops[j]?).bind (·.dst)).bind (envGet env) with
  | some (.l (.bool b)) => some (cond want b (!b))
  | some (.ifb c (.l (.bool b))) => some (c && cond want b (!b))
  | some .undef => some false
  | _ => none

def astep (P : Program) (G : Nat → Option (List LV)) (Hl He : Nat → Bool) (ops : Array Oper) (env : Env) (σ : List Blk) (R : RowsA) (o : Oper) (K : AV → List Blk → RowsA → Prop) : Prop :=
  match o.guard with
  | none => aop P G Hl He env σ R K o.op
  | some (j, want) => match gval ops env j want with
    | none => False
    | some g => match pv P G Hl env σ o.op with
      | some (S, v) => (match mkIfb g v with
        | some u => (g = true → S) ∧ K u σ R
        | none => False)
      | none => (g = true → aop P G Hl He env σ R (Wid K) o.op) ∧ (g = false → ∃ u, AV.no u = true ∧ K u σ R)

def aops (P : Program) (G : Nat → Option (List LV)) (Hl He : Nat → Bool) (ops : Array Oper) (K : Env → List Blk → RowsA → Prop) : List Oper → Env → List Blk → RowsA → Prop
  | [], env, σ, R => K env σ R
  | o :: rest, env, σ, R => astep P G Hl He ops env σ R o fun v σ' R' => aops P G Hl He ops K rest (envPut o.dst v env) σ' R'
end Go.Abs
