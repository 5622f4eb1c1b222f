/-
  A LAW's ARGUMENTS, OPENED: what reads as plain data (numbers, bools, texts, slices, structs, arrays) is told by values without addresses ('Ty'); and what a law's call comes to, if it comes to true on all such values.
-/
import Derived.Test.YtajeoodipplmlaaDoorAbs21
import Derived.ChangeSame
import Derived.OpenShut
import Derived.Carry
import Derived.Deep.Slices
import Derived.ChangeArms
set_option linter.all false
namespace Go.Abs
open Go Go.RowKit Go.ChangeShapes Go.WideShapes

mutual
/-- Cells that hold a value of a type. -/
inductive Ty (P : Program) : TypeId → List LV → Prop
  | bool {t : TypeId} (h : P.underlying t = some .bool) (b : Bool) : Ty P t [.bool b]
  | int {t : TypeId} {k : IntKind} (h : P.underlying t = some (.int k)) (n : Int) (hn : k.min ≤ n ∧ n ≤ k.max) : Ty P t [.int k n]
  | str {t : TypeId} (h : P.underlying t = some .string) (s : ByteArray) (hs : s.size ≤ maxLen) : Ty P t [.str (strInts s)]
  | slice {t e : TypeId} (h : P.underlying t = some (.slice e)) (elems : List (List LV)) (hl : elems.length ≤ maxLen) (he : ∀ c ∈ elems, Ty P e c) : Ty P t [.slice .shared (szT P e) elems]
  | struct {t : TypeId} {fs : Array Field} {xs : List LV} (h : P.underlying t = some (.struct fs)) (hf : TyFs P fs.toList xs) : Ty P t xs
  | array {t e : TypeId} {n : Nat} {xs : List LV} (h : P.underlying t = some (.array n e)) (hf : TyN P e n xs) : Ty P t xs
inductive TyFs (P : Program) : List Field → List LV → Prop
  | nil : TyFs P [] []
  | cons {f : Field} {fs : List Field} {ys zs : List LV} (h : Ty P f.type ys) (ht : TyFs P fs zs) : TyFs P (f :: fs) (ys ++ zs)
inductive TyN (P : Program) : TypeId → Nat → List LV → Prop
  | zero {e : TypeId} : TyN P e 0 []
  | succ {e : TypeId} {n : Nat} {ys zs : List LV} (h : Ty P e ys) (ht : TyN P e n zs) : TyN P e (n + 1) (ys ++ zs)
end

/-- Fields that lie one behind the other. -/
def inRow (P : Program) : List Field → Nat → Nat → Bool
  | [], o, n => o == n
  | f :: fs, o, n => f.offset == o && inRow P fs (o + szT P f.type) n
/-- A type of plain data. -/
def plainT (P : Program) : Nat → TypeId → Bool
  | 0, _ => false
  | d + 1, t => match P.underlying t with
    | some .bool => szT P t == 1
    | some (.int _) => szT P t == 1
    | some .string => szT P t == 1
    | some (.slice e) => szT P t == 1 && Nat.blt 0 (szT P e) && plainT P d e
    | some (.struct fs) => inRow P fs.toList 0 (szT P t) && fs.toList.all fun f => plainT P d f.type
    | some (.array n e) => szT P t == n * szT P e && plainT P d e
    | _ => false

/-- What a world's cells hold. -/
def cellRd (w : World) (b o : Nat) (v : Value) : Prop := w.cell? ⟨b, o, none⟩ = some v
def LRep (w : World) (xs : List LV) (cs : List Value) : Prop := xs.length = cs.length ∧ ∀ (j : Nat) (x : LV), xs[j]? = some x → ∃ u, cs[j]? = some u ∧ Rep (cellRd w) x u

section
variable {H : Type} {enc : TypeId × Value → H} {P : Program} {w : World} {base : Nat} {sp : Nat → Bool} {held : Bool}

theorem lrep_one {x : LV} {u : Value} (h : Rep (cellRd w) x u) : LRep w [x] [u] := by
  refine ⟨rfl, fun j y hj => ?_⟩
  cases j with
  | zero => simp at hj; subst hj; exact ⟨u, rfl, h⟩
  | succ j => simp at hj
theorem lrep_append {xs ys : List LV} {cs ds : List Value} (h : LRep w xs cs) (h' : LRep w ys ds) : LRep w (xs ++ ys) (cs ++ ds) := by
  refine ⟨by simp [h.1, h'.1], fun j x hj => ?_⟩
  by_cases hlt : j < xs.length
  · rw [List.getElem?_append_left hlt] at hj
    obtain ⟨u, h1, h2⟩ := h.2 j x hj
    exact ⟨u, by rw [List.getElem?_append_left (by rw [← h.1]; exact hlt)]; exact h1, h2⟩
  · rw [List.getElem?_append_right (by omega)] at hj
    obtain ⟨u, h1, h2⟩ := h'.2 _ x hj
    exact ⟨u, by rw [List.getElem?_append_right (by rw [← h.1]; omega), ← h.1]; exact h1, h2⟩

theorem trod_szT {t : TypeId} {fuel d : Nat} {cs : List Value} {x : DataW H × List MemPlace} (hp : plainT P d t = true) (h : DataW.trod enc P w base sp held fuel t cs = some x) : cs.length = szT P t := by
  cases d with
  | zero => simp [plainT] at hp
  | succ d =>
    cases hu : P.underlying t with
    | none => simp [plainT, hu] at hp
    | some u =>
      cases u <;> simp only [plainT, hu, Bool.and_eq_true, beq_iff_eq, Bool.false_eq_true] at hp
      case bool => obtain ⟨b, rfl, _⟩ := DataW.trod_bool hu h; simp [hp]
      case int k => obtain ⟨n, rfl, _⟩ := DataW.trod_int hu h; simp [hp]
      case string => obtain ⟨s, rfl, _⟩ := DataW.trod_string hu h; simp [hp]
      case slice e =>
        rcases Deep.open_slice hu h with ⟨rfl, _⟩ | ⟨a, len, cap, m, n, D, Pl, rfl, _⟩
        · simp [hp.1.1]
        · simp [hp.1.1]
      case struct fs => obtain ⟨_, _, _, _, hl, _⟩ := DataW.trod_struct hu h; exact hl
      case array n e => obtain ⟨_, _, _, _, hl, _⟩ := DataW.trod_array hu h; exact hl

theorem open_ty : ∀ (fuel d : Nat) (t : TypeId) (cs : List Value) (x : DataW H × List MemPlace), plainT P d t = true → DataW.trod enc P w base sp held fuel t cs = some x → ∃ xs, Ty P t xs ∧ LRep w xs cs
  | 0, _, _, _, _, _, h => by simp [DataW.trod] at h
  | fuel + 1, d, t, cs, x, hp, h => by
    cases d with
    | zero => simp [plainT] at hp
    | succ d =>
      cases hu : P.underlying t with
      | none => simp [plainT, hu] at hp
      | some u =>
        cases u <;> simp only [plainT, hu, Bool.and_eq_true, beq_iff_eq, Bool.false_eq_true, Nat.blt_eq] at hp
        case bool =>
          obtain ⟨b, rfl, _⟩ := DataW.trod_bool hu h
          exact ⟨_, .bool hu b, lrep_one (.bool b)⟩
        case int k =>
          obtain ⟨n, rfl, _, hw⟩ := DataW.trod_int hu h
          simp only [Lit.wf, Bool.and_eq_true, decide_eq_true_eq] at hw
          exact ⟨_, .int hu n hw, lrep_one (.int k n)⟩
        case string =>
          obtain ⟨s, rfl, _, hs⟩ := DataW.trod_string hu h
          exact ⟨_, .str hu s hs, lrep_one (.str s)⟩
        case slice e =>
          rcases Deep.open_slice hu h with ⟨rfl, _⟩ | ⟨a, len, cap, m, n, D, Pl, rfl, _, hlc, hcm, hm, _, hx⟩
          · exact ⟨_, .slice hu [] (Nat.zero_le _) (by simp), lrep_one (.slice [] none 0 0 0 _ (fun _ _ => Go.undef) (Nat.le_refl _) (Nat.zero_le _) (by simp) (.inl rfl) (by simp) (by simp))⟩
          · have hlm : len ≤ m := by rw [hm]; split <;> omega
            -- one fuel less suffices for the elements
            have hel : ∀ i, i < len → ∃ ys cs', w.cells? base (a.add (i * P.cellsOf e)) (P.cellsOf e) = some cs' ∧ Ty P e ys ∧ LRep w ys cs' := fun i hi => by
              obtain ⟨cs', h1, h2⟩ := hx i (by omega)
              rcases DataW.trod_slice hu h with ⟨h0, _⟩ | ⟨a', len', cap', elems, rest, n', hn', hcs', _, _, _, _, hlen', hel', _⟩
              · simp at h0
              · simp only [List.cons.injEq, and_true, Value.slice.injEq, Option.some.injEq] at hcs'
                obtain ⟨rfl, rfl, rfl⟩ := hcs'
                have hb := hel' i hi
                rw [h1, Option.bind_some, List.getElem?_eq_getElem (by omega)] at hb
                obtain rfl : fuel = n' := by omega
                obtain ⟨ys, y1, y2⟩ := open_ty fuel d e cs' _ hp.2 hb
                exact ⟨ys, cs', h1, y1, y2⟩
            obtain ⟨E, hE⟩ := Deep.choose_lt (α := List LV) (p := fun i ys => ∃ cs', w.cells? base (a.add (i * P.cellsOf e)) (P.cellsOf e) = some cs' ∧ Ty P e ys ∧ LRep w ys cs') hel
            have hsz : ∀ i, i < len → (E i).length = szT P e := fun i hi => by
              obtain ⟨cs', h1, _, h3⟩ := hE i hi
              obtain ⟨_, h4, _⟩ := World.cells?_some h1
              rw [h3.1, h4]; rfl
            have hget : ∀ (i : Nat) (c : List LV), ((List.range len).map E)[i]? = some c → i < len ∧ c = E i := fun i c hc => by
              simp only [List.getElem?_map, Option.map_eq_some_iff] at hc
              obtain ⟨k, hk, rfl⟩ := hc
              have hlt := (List.getElem?_eq_some_iff.1 hk).1
              simp only [List.length_range] at hlt
              rw [List.getElem?_range hlt] at hk
              obtain rfl := Option.some.inj hk
              exact ⟨hlt, rfl⟩
            have hel1 : ((List.range len).map E).length = len := by simp
            refine ⟨_, .slice hu ((List.range len).map E) (by simp; omega) (fun c hc => ?_), lrep_one ?_⟩
            · obtain ⟨i, hi⟩ := List.mem_iff_getElem?.1 hc
              obtain ⟨hlt, rfl⟩ := hget i c hi
              obtain ⟨_, _, h2, _⟩ := hE i hlt
              exact h2
            · have key := Rep.slice (Rd := cellRd w) ((List.range len).map E) (some a) cap a.block a.off (szT P e) (fun i j => (w.cell? ⟨a.block, a.off + (i * szT P e + j), none⟩).getD Go.undef) (by rw [hel1]; exact hlc) hcm
                (fun c hc => by
                  obtain ⟨i, hi⟩ := List.mem_iff_getElem?.1 hc
                  obtain ⟨hlt, rfl⟩ := hget i c hi
                  exact hsz i hlt)
              rw [hel1] at key
              have hspot : 0 < len → a = ⟨a.block, a.off, none⟩ := fun h0 => by
                obtain ⟨cs', h1, _, h3⟩ := hE 0 h0
                obtain ⟨_, h4, h5⟩ := World.cells?_some h1
                have h6 := h5 0 hp.1.2
                have hl0 : 0 < cs'.length := by rw [h4]; exact hp.1.2
                rw [List.getElem?_eq_getElem hl0] at h6
                simp only [Nat.zero_mul] at h6
                have hadd : ∀ a : Addr, a.add 0 = a := fun a => rfl
                rw [hadd, hadd] at h6
                obtain ⟨ab, ao, as⟩ := a
                cases as with
                | none => rfl
                | some s =>
                  exfalso
                  simp only [World.cell?] at h6
                  split at h6 <;> simp at h6
              refine key ?_ (fun i j hi hj => ?_) (fun i j c x hc hx => ?_)
              · cases len with
                | zero => left; simp
                | succ len => right; rw [← hspot (by omega)]
              · obtain ⟨cs', h1, _, h3⟩ := hE i hi
                obtain ⟨_, h4, h5⟩ := World.cells?_some h1
                have h6 := h5 j hj
                have hl0 : j < cs'.length := by rw [h4]; exact hj
                rw [List.getElem?_eq_getElem hl0, Deep.add_add, hspot (by omega), add_lit] at h6
                show w.cell? _ = some _
                rw [show i * szT P e + j = i * P.cellsOf e + j from rfl, h6]; rfl
              · obtain ⟨hi, rfl⟩ := hget i c hc
                obtain ⟨cs', h1, _, h3⟩ := hE i hi
                obtain ⟨_, h4, h5⟩ := World.cells?_some h1
                obtain ⟨u, u1, u2⟩ := h3.2 j x hx
                have hj : j < P.cellsOf e := by rw [← h4]; exact (List.getElem?_eq_some_iff.1 u1).1
                have h6 := h5 j hj
                rw [u1, Deep.add_add, hspot (by omega), add_lit] at h6
                show Rep (cellRd w) x ((w.cell? ⟨a.block, a.off + (i * P.cellsOf e + j), none⟩).getD Go.undef)
                rw [h6]
                exact u2
        case struct fs =>
          obtain ⟨xs, n, hn, _, hl, hxl, hf⟩ := DataW.trod_struct hu h
          obtain rfl : fuel = n := by omega
          have key : ∀ (l : List Field) (o : Nat), inRow P l o (szT P t) = true → (∀ f ∈ l, plainT P d f.type = true ∧ ∃ y, DataW.trod enc P w base sp held fuel f.type ((cs.drop f.offset).take (P.cellsOf f.type)) = some y) →
              ∃ ys, TyFs P l ys ∧ LRep w ys (cs.drop o) := by
            intro l
            induction l with
            | nil =>
              intro o ho _
              simp only [inRow, beq_iff_eq] at ho
              refine ⟨[], .nil, ?_, by simp⟩
              rw [List.length_drop, hl, ho]; simp [szT, Program.cellsOf]
            | cons f l ih =>
              intro o ho hall
              simp only [inRow, Bool.and_eq_true, beq_iff_eq] at ho
              obtain ⟨zs, z1, z2⟩ := ih _ ho.2 fun g hg => hall g (List.mem_cons_of_mem _ hg)
              obtain ⟨hpf, y, hy⟩ := hall f List.mem_cons_self
              obtain ⟨ys, y1, y2⟩ := open_ty fuel d f.type _ y hpf hy
              refine ⟨ys ++ zs, .cons y1 z1, ?_⟩
              have := lrep_append y2 z2
              rw [ho.1] at this
              rw [show cs.drop o = (cs.drop o).take (szT P f.type) ++ cs.drop (o + szT P f.type) by rw [← List.drop_drop, List.take_append_drop]]
              exact this
          obtain ⟨ys, y1, y2⟩ := key fs.toList 0 hp.1 fun f hf' => by
            have := hp.2
            rw [List.all_eq_true] at this
            refine ⟨this f hf', ?_⟩
            obtain ⟨i, hi⟩ := List.mem_iff_getElem?.1 hf'
            rw [Array.getElem?_toList] at hi
            have hlt := (Array.getElem?_eq_some_iff.1 hi).1
            exact ⟨_, (hf i f hi).trans (List.getElem?_eq_getElem (by omega))⟩
          exact ⟨ys, .struct hu y1, by simpa using y2⟩
        case array n e =>
          obtain ⟨xs, m, hm, _, hl, hxl, hf⟩ := DataW.trod_array hu h
          obtain rfl : fuel = m := by omega
          have key : ∀ (k : Nat), k ≤ n → ∃ ys, TyN P e k ys ∧ LRep w ys (cs.drop ((n - k) * szT P e)) := by
            intro k
            induction k with
            | zero =>
              intro _
              refine ⟨[], .zero, ?_, by simp⟩
              rw [List.length_drop, hl]
              have : P.cellsOf t = n * szT P e := hp.1
              rw [this]; simp
            | succ k ih =>
              intro hk
              obtain ⟨zs, z1, z2⟩ := ih (by omega)
              have hfi := hf (n - (k + 1)) (by omega)
              rw [List.getElem?_eq_getElem (by omega)] at hfi
              obtain ⟨ys, y1, y2⟩ := open_ty fuel d e _ _ hp.2 hfi
              refine ⟨ys ++ zs, .succ y1 z1, ?_⟩
              have := lrep_append y2 z2
              have hmul : (n - (k + 1)) * szT P e + szT P e = (n - k) * szT P e := by
                rw [← Nat.succ_mul]; congr 1; omega
              rw [show cs.drop ((n - (k + 1)) * szT P e) = (cs.drop ((n - (k + 1)) * szT P e)).take (szT P e) ++ cs.drop ((n - k) * szT P e) by rw [← hmul, ← List.drop_drop, List.take_append_drop]]
              exact this
          obtain ⟨ys, y1, y2⟩ := key n (Nat.le_refl _)
          exact ⟨ys, .array hu y1, by simpa using y2⟩
end
end Go.Abs
