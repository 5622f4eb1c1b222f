/-
  A LAW's CALL: a law whose call comes to true on all values without addresses that its parameters' types allow, returns true in the model, and leaves its arguments as they read.
-/
import Derived.Test.YtajeoodipplmlaaDoorAbs22
import Derived.ChangeCalls
set_option linter.all false
namespace Go.Abs
open Go Go.RowKit Go.ChangeShapes Go.WideShapes

/-- An argument's value. -/
def TyA (P : Program) (t : TypeId) (v : AV) : Prop := ∃ xs, Ty P t xs ∧ ((aggT P t = true ∧ v = .agg xs) ∨ (aggT P t = false ∧ ∃ x, xs = [x] ∧ v = .l x))
inductive TyAll (P : Program) : List TypeId → List AV → Prop
  | nil : TyAll P [] []
  | cons {t : TypeId} {ts : List TypeId} {v : AV} {vs : List AV} (h : TyA P t v) (ht : TyAll P ts vs) : TyAll P (t :: ts) (v :: vs)

/-- The world of a call, with no variables of its own yet. -/
def bare (W : World) : Ctx := ⟨W, [], [], fun _ _ => False⟩
theorem bare_rd {W : World} {b o : Nat} {v : Value} : cellRd W b o v → (bare W).Rd b o v := fun h => ⟨h, by simp [bare], fun ⟨i, r, hr, _⟩ => (by simp [bare] at hr), fun h => h⟩
theorem bare_rep {W : World} {x : LV} {v : Value} (h : Rep (cellRd W) x v) : RepL (bare W) x v := repL_of_rep (h.mono fun _ _ _ => bare_rd)

section
variable {H : Type} {enc : TypeId × Value → H} {P : Program} {W : World} {G : Nat → Option (List LV)}

theorem bare_inv (hG : ∀ g cells, G g = some cells → ∀ (j : Nat) (x : LV), cells[j]? = some x → ∃ u, cellRd W g j u ∧ Rep (cellRd W) x u) : Inv G (bare W) [] [] :=
  { muLen := rfl, nodup := List.nodup_nil, blk := fun i B b hB _ => (by simp at hB), rowsR := rfl, row := fun i r b hr _ => (by simp [bare] at hr), row0 := fun i r hr _ => (by simp [bare] at hr),
    inj := fun i j r q b hr _ _ _ => (by simp [bare] at hr), zlt := fun b o h => h.elim,
    glob := fun g cells hg j x hx => let ⟨u, h1, h2⟩ := hG g cells hg j x hx; ⟨u, bare_rd h1, h2.mono fun _ _ _ => bare_rd⟩ }

theorem one_cell {r : Reach} {b : Nat} {t : TypeId} {v : Value} {d : Nat} (hp : plainT P d t = true) (ha : aggT P t = false) (h : Value.okWide P W r b t v) : v.cells = #[v] := by
  cases d with
  | zero => simp [plainT] at hp
  | succ d =>
    cases hu : P.underlying t with
    | none => simp [plainT, hu] at hp
    | some u =>
      cases u <;> simp only [plainT, hu, Bool.false_eq_true] at hp
      case struct fs => simp [aggT, aggD, hu] at ha
      case array n e => simp [aggT, aggD, hu] at ha
      all_goals
        simp only [Value.okWide, hu, Cell.okWide, Cell.ok] at h
        cases v <;> simp_all [Value.cells]

theorem agg_cells {r : Reach} {b : Nat} {t : TypeId} {v : Value} (ha : aggT P t = true) (h : Value.okWide P W r b t v) : ∃ cs, v = .agg cs := by
  cases hu : P.underlying t with
  | none => simp [aggT, aggD, hu] at ha
  | some u =>
    cases u <;> simp only [aggT, aggD, hu, Bool.false_eq_true] at ha
    case struct fs => simp only [Value.okWide, hu] at h; exact ⟨h.choose, h.choose_spec.1⟩
    case array n e => simp only [Value.okWide, hu] at h; exact ⟨h.choose, h.choose_spec.1⟩

theorem open_arg {sp : Nat → Bool} {held : Bool} {r : Reach} {b d : Nat} {t : TypeId} {v : Value} {x : DataW H} {ps : List MemPlace} (hp : plainT P d t = true) (hv : Value.okWide P W r b t v) (h : DataW.Trod enc P W 0 sp held t v x ps) :
    ∃ a, TyA P t a ∧ RepV (bare W) a v := by
  obtain ⟨fuel, hf⟩ := h
  obtain ⟨xs, h1, h2, h3⟩ := open_ty fuel d t _ _ hp hf
  cases ha : aggT P t with
  | true =>
    obtain ⟨cs, rfl⟩ := agg_cells ha hv
    refine ⟨.agg xs, ⟨xs, h1, .inl ⟨ha, rfl⟩⟩, cs, rfl, by simpa [Value.cells] using h2.symm, fun j x hj => ?_⟩
    obtain ⟨u, u1, u2⟩ := h3 j x hj
    exact ⟨u, by simpa [Value.cells] using u1, bare_rep u2⟩
  | false =>
    rw [one_cell hp ha hv] at h2 h3
    match xs, h2 with
    | [x], _ =>
      refine ⟨.l x, ⟨[x], h1, .inr ⟨ha, x, rfl, rfl⟩⟩, ?_⟩
      obtain ⟨u, u1, u2⟩ := h3 0 x rfl
      simp at u1
      subst u1
      exact bare_rep u2

theorem open_args {sp : Nat → Bool} {held : Bool} {r : Reach} {b d : Nat} : ∀ (ts : List TypeId) (vs : List Value) (ds : List (DataW H)) (ps : List MemPlace), DataW.TrodAll enc P W 0 sp held ts vs ds ps → (∀ t ∈ ts, plainT P d t = true) →
    (∀ (j : Nat) t v, ts[j]? = some t → vs[j]? = some v → Value.okWide P W r b t v) → ∃ as, TyAll P ts as ∧ vs.length = as.length ∧ ∀ (j : Nat) (x : AV), as[j]? = some x → ∃ u, vs[j]? = some u ∧ RepV (bare W) x u
  | [], vs, ds, ps, h, _, _ => by
    obtain ⟨rfl, _, _⟩ := trodAll_nil h
    exact ⟨[], .nil, rfl, by simp⟩
  | t :: ts, vs, ds, ps, h, hp, hv => by
    obtain ⟨v, vs', d', ds', p, q, rfl, rfl, rfl, h1, h2⟩ := trodAll_cons h
    obtain ⟨a, a1, a2⟩ := open_arg (hp t List.mem_cons_self) (hv 0 t v rfl rfl) h1
    obtain ⟨as, k1, k2, k3⟩ := open_args ts vs' ds' q h2 (fun t ht => hp t (List.mem_cons_of_mem _ ht)) fun j t v h1 h2 => hv (j + 1) t v (by simpa using h1) (by simpa using h2)
    refine ⟨a :: as, .cons a1 k1, by simp [k2], fun j x hj => ?_⟩
    cases j with
    | zero => simp at hj; subst hj; exact ⟨v, rfl, a2⟩
    | succ j => simpa using k3 j x (by simpa using hj)

theorem trodAll_stays (hl : laidOutB P = true) {W' : World} {sp' : Nat → Bool} (hb : Below W.heap.size W W') : ∀ (ts : List TypeId) (vs : List Value) (ds : List (DataW H)) (ps : List MemPlace), (∀ t ∈ ts, P.readableRec t = true ∧ t < P.types.size) →
    DataW.TrodAll enc P W 0 (fun _ => true) true ts vs ds ps → (∀ p ∈ ps, p.block < W.heap.size) → (∀ p ∈ ps, sp' p.block = true) → DataW.TrodAll enc P W' 0 sp' true ts vs ds ps
  | [], vs, ds, ps, _, h, _, _ => by
    obtain ⟨rfl, rfl, rfl⟩ := trodAll_nil h
    exact trodAll_mk0
  | t :: ts, vs, ds, ps, hr, h, hlt, hs => by
    obtain ⟨v, vs', d', ds', p, q, rfl, rfl, rfl, h1, h2⟩ := trodAll_cons h
    obtain ⟨k1, k2⟩ := hr t List.mem_cons_self
    refine trodAll_cons_mk (WideElems.Trod_stays hl k1 k2 h1 (fun x hx => hb.same (hlt x (List.mem_append_left _ hx))) fun x hx => hs x (List.mem_append_left _ hx)) ?_
    exact trodAll_stays hl hb ts vs' ds' q (fun t ht => hr t (List.mem_cons_of_mem _ ht)) h2 (fun x hx => hlt x (List.mem_append_right _ hx)) fun x hx => hs x (List.mem_append_right _ hx)

theorem evo_below {X' : Ctx} (h : Evo (bare W) X') : Below W.heap.size W X'.w :=
  { os := h.os, tape := h.tape, output := h.output, size := h.size, block := fun k hk => h.mem k hk (by simp [bare]) (fun i r hr => (by simp [bare] at hr)) }

theorem law_contract {f : FuncId} {fn : Func} {s : ChangeSpec} {args : Array Value} {ds gs : List (DataW H)} {before : List MemPlace} {tb : TypeId} {b : Nat} (hl : laidOutB P = true) (hres : fn.resultTypes = #[tb]) (htb : P.underlying tb = some .bool)
    (hpsB : (fn.params.toList.all fun t => P.readableRec t && decide (t < P.types.size) && plainT P 8 t) = true) (hvars : s.vars = []) (hspec : ds.length = fn.params.size → s.fn H ds = { results := [.lit (.bool true)], args := ds })
    (hval : ∀ (j : Nat) t v, fn.params[j]? = some t → args[j]? = some v → Value.okWide P W .any b t v) (hW : DataW.Whole enc P fn.params.toList s.vars false W args.toList ds gs before)
    (hG : ∀ g cells, G g = some cells → ∀ (j : Nat) (x : LV), cells[j]? = some x → ∃ u, cellRd W g j u ∧ Rep (cellRd W) x u)
    (hacx : ∀ as, TyAll P fn.params.toList as → ACX P G f as [] [] (.l (.bool true)) [] []) :
    Calls P f args W fun e W' => ∃ v, e = .returned v ∧ s.post enc P fn false true false false W args v W' := by
  have hps : ∀ t ∈ fn.params.toList, P.readableRec t = true ∧ t < P.types.size ∧ plainT P 8 t = true := fun t ht => by
    rw [List.all_eq_true] at hpsB
    have := hpsB t ht
    simp only [Bool.and_eq_true, decide_eq_true_eq] at this
    exact ⟨this.1.1, this.1.2, this.2⟩
  have hW' := hW
  obtain ⟨p, q, hA, hV, rfl, hz, hn⟩ := hW
  rw [hvars] at hV
  obtain ⟨rfl, rfl⟩ := trodVars_none hV
  obtain ⟨as, k1, k2, k3⟩ := open_args fn.params.toList args.toList ds p hA (fun t ht => (hps t ht).2.2) fun j t v h1 h2 => hval j t v (by simpa using h1) (by simpa using h2)
  refine ((hacx as k1).2 (bare W) args (bare_inv hG) (by simpa using k2) (fun j x hj => by simpa using k3 j x hj)).mono ?_
  rintro e W' ⟨res, r, σ', R', X', rfl, ⟨rfl, rfl, rfl⟩, rfl, hE, _, _, hr⟩
  obtain rfl := repL_bool hr
  have hb := evo_below hE
  have hlt : ∀ x ∈ p, x.block < W.heap.size := fun x hx => by simpa using hW'.lt x (List.mem_append_left _ hx)
  have hlen : ds.length = fn.params.size := by
    have := (trodAll_length hA).2
    simpa using this
  have hargs : ∀ sp : Nat → Bool, (∀ x ∈ p, sp x.block = true) → DataW.TrodAll enc P X'.w 0 sp true fn.params.toList args.toList ds p := fun sp hs =>
    trodAll_stays hl hb _ _ _ _ (fun t ht => ⟨(hps t ht).1, (hps t ht).2.1⟩) hA hlt hs
  have hspec' : s.fn H (ds ++ []) = { results := [.lit (.bool true)], args := ds } := by rw [List.append_nil]; exact hspec hlen
  have hresT : ∀ (b : Nat) (sp : Nat → Bool) (hd : Bool), DataW.TrodAll enc P X'.w b sp hd fn.resultTypes.toList ((Value.bool true).resultList fn.resultTypes.size) (s.fn H (ds ++ [])).results [] := fun b sp hd => by
    rw [hspec', hres]
    exact trodAll_cons_mk (shut_bool htb _) trodAll_mk0
  have hp0 : p ++ [] = p := List.append_nil p
  refine ⟨_, rfl, ds, [], p ++ [], [], p, [], hW', hresT _ _ _, ?_, ?_, hb.frame _, fun _ => ?_⟩
  · rw [hspec']; exact hargs _ fun x hx => by simpa using hlt x hx
  · rw [hspec', hvars]; exact rfl
  · have hall := trodAll_append (hargs (fun _ => true) fun _ _ => rfl) (hresT 0 (fun _ => true) true)
    refine ⟨ok_one hres rfl (okWide_bool_mk htb _), _, [], ([] ++ p) ++ [], ⟨[] ++ p, [], hall, ?_, rfl, ?_, ?_⟩, ?_⟩
    · rw [hvars]; exact rfl
    · intro b off hx
      have hx' : MemPlace.cell b off ∈ p := by simpa using hx
      rw [hb.frozen (by have := hlt _ hx'; simpa [MemPlace.block] using this)]
      exact hz b off (by simpa using hx)
    · intro h; cases h
    · intro x hx _; simpa using hx
end

/-! ### What a type's cells are -/
section
variable {P : Program} {t e : TypeId} {k : IntKind} {xs : List LV}
theorem Ty.int_inv (hu : P.underlying t = some (.int k)) (h : Ty P t xs) : ∃ n, xs = [.int k n] ∧ k.min ≤ n ∧ n ≤ k.max := by
  cases h with
  | bool h b => rw [hu] at h; cases h
  | int h n hn => rw [hu] at h; cases h; exact ⟨_, rfl, hn⟩
  | str h s hs => rw [hu] at h; cases h
  | slice h elems hl he => rw [hu] at h; cases h
  | struct h hf => rw [hu] at h; cases h
  | array h hf => rw [hu] at h; cases h
theorem Ty.bool_inv (hu : P.underlying t = some .bool) (h : Ty P t xs) : ∃ b, xs = [.bool b] := by
  cases h with
  | bool h b => rw [hu] at h; cases h; exact ⟨_, rfl⟩
  | int h n hn => rw [hu] at h; cases h
  | str h s hs => rw [hu] at h; cases h
  | slice h elems hl he => rw [hu] at h; cases h
  | struct h hf => rw [hu] at h; cases h
  | array h hf => rw [hu] at h; cases h
theorem Ty.str_inv (hu : P.underlying t = some .string) (h : Ty P t xs) : ∃ s : ByteArray, xs = [.str (strInts s)] ∧ s.size ≤ maxLen := by
  cases h with
  | bool h b => rw [hu] at h; cases h
  | int h n hn => rw [hu] at h; cases h
  | str h s hs => rw [hu] at h; cases h; exact ⟨_, rfl, hs⟩
  | slice h elems hl he => rw [hu] at h; cases h
  | struct h hf => rw [hu] at h; cases h
  | array h hf => rw [hu] at h; cases h
theorem Ty.slice_inv (hu : P.underlying t = some (.slice e)) (h : Ty P t xs) : ∃ elems, xs = [.slice .shared (szT P e) elems] ∧ elems.length ≤ maxLen ∧ ∀ c ∈ elems, Ty P e c := by
  cases h with
  | bool h b => rw [hu] at h; cases h
  | int h n hn => rw [hu] at h; cases h
  | str h s hs => rw [hu] at h; cases h
  | slice h elems hl he => rw [hu] at h; cases h; exact ⟨_, rfl, hl, he⟩
  | struct h hf => rw [hu] at h; cases h
  | array h hf => rw [hu] at h; cases h
theorem Ty.struct_inv {fs : Array Field} (hu : P.underlying t = some (.struct fs)) (h : Ty P t xs) : TyFs P fs.toList xs := by
  cases h with
  | bool h b => rw [hu] at h; cases h
  | int h n hn => rw [hu] at h; cases h
  | str h s hs => rw [hu] at h; cases h
  | slice h elems hl he => rw [hu] at h; cases h
  | struct h hf => rw [hu] at h; cases h; exact hf
  | array h hf => rw [hu] at h; cases h
theorem Ty.array_inv {n : Nat} (hu : P.underlying t = some (.array n e)) (h : Ty P t xs) : TyN P e n xs := by
  cases h with
  | bool h b => rw [hu] at h; cases h
  | int h n hn => rw [hu] at h; cases h
  | str h s hs => rw [hu] at h; cases h
  | slice h elems hl he => rw [hu] at h; cases h
  | struct h hf => rw [hu] at h; cases h
  | array h hf => rw [hu] at h; cases h; exact hf
theorem TyFs.cons_inv {f : Field} {fs : List Field} (h : TyFs P (f :: fs) xs) : ∃ ys zs, xs = ys ++ zs ∧ Ty P f.type ys ∧ TyFs P fs zs := by
  cases h; exact ⟨_, _, rfl, ‹_›, ‹_›⟩
theorem TyFs.nil_inv (h : TyFs P [] xs) : xs = [] := by cases h; rfl
theorem TyN.succ_inv {n : Nat} (h : TyN P e (n + 1) xs) : ∃ ys zs, xs = ys ++ zs ∧ Ty P e ys ∧ TyN P e n zs := by
  cases h; exact ⟨_, _, rfl, ‹_›, ‹_›⟩
theorem TyN.zero_inv (h : TyN P e 0 xs) : xs = [] := by cases h; rfl
theorem TyA.one {v : AV} (ha : aggT P t = false) (h : TyA P t v) : ∃ x, v = .l x ∧ Ty P t [x] := by
  obtain ⟨xs, h1, ⟨h2, _⟩ | ⟨_, x, rfl, rfl⟩⟩ := h
  · rw [ha] at h2; cases h2
  · exact ⟨x, rfl, h1⟩
theorem TyA.many {v : AV} (ha : aggT P t = true) (h : TyA P t v) : ∃ xs, v = .agg xs ∧ Ty P t xs := by
  obtain ⟨xs, h1, ⟨_, rfl⟩ | ⟨h2, _⟩⟩ := h
  · exact ⟨xs, rfl, h1⟩
  · rw [ha] at h2; cases h2
theorem TyAll.cons_inv {ts : List TypeId} {vs : List AV} (h : TyAll P (t :: ts) vs) : ∃ v vs', vs = v :: vs' ∧ TyA P t v ∧ TyAll P ts vs' := by
  cases h; exact ⟨_, _, rfl, ‹_›, ‹_›⟩
theorem TyAll.nil_inv {vs : List AV} (h : TyAll P [] vs) : vs = [] := by cases h; rfl
theorem list_of {β : Type} (f : β → List LV) (p : β → Prop) : ∀ (elems : List (List LV)), (∀ c ∈ elems, ∃ b, c = f b ∧ p b) → ∃ l : List β, elems = l.map f ∧ ∀ b ∈ l, p b
  | [], _ => ⟨[], rfl, by simp⟩
  | c :: cs, h => by
    obtain ⟨b, rfl, hb⟩ := h c List.mem_cons_self
    obtain ⟨l, rfl, hl⟩ := list_of f p cs fun c hc => h c (List.mem_cons_of_mem _ hc)
    exact ⟨b :: l, rfl, fun x hx => by
      rcases List.mem_cons.1 hx with rfl | hx
      · exact hb
      · exact hl x hx⟩
end

/-! ### What the listed variables hold -/
mutual
def datL : DataW Unit → Option (List LV)
  | .lit (.int k n) => some [.int k n]
  | .lit (.bool b) => some [.bool b]
  | .agg ps => datLs ps
  | _ => none
def datLs : List (DataW Unit) → Option (List LV)
  | [] => some []
  | p :: ps => match datL p, datLs ps with
    | some xs, some ys => some (xs ++ ys)
    | _, _ => none
end
theorem datLs_cons {p : DataW Unit} {ps : List (DataW Unit)} {ys : List LV} (h : datLs (p :: ps) = some ys) : ∃ a b, datL p = some a ∧ datLs ps = some b ∧ ys = a ++ b := by
  simp only [datLs] at h
  split at h
  · rename_i a b h1 h2
    exact ⟨a, b, h1, h2, (Option.some.inj h).symm⟩
  · cases h
section
variable {P : Program} {w : World} {base : Nat} {sp : Nat → Bool} {held : Bool}
theorem trod_flat : ∀ (fuel d : Nat) (t : TypeId) (cs : List Value) (x : DataW Unit × List MemPlace) (ys : List LV), plainT P d t = true → DataW.trod (fun _ => ()) P w base sp held fuel t cs = some x → datL x.1 = some ys → LRep w ys cs
  | 0, _, _, _, _, _, _, h, _ => by simp [DataW.trod] at h
  | fuel + 1, d, t, cs, x, ys, hp, h, hd => by
    cases d with
    | zero => simp [plainT] at hp
    | succ d =>
      cases hu : P.underlying t with
      | none => simp [plainT, hu] at hp
      | some u =>
        cases u <;> simp only [plainT, hu, Bool.and_eq_true, beq_iff_eq, Bool.false_eq_true, Nat.blt_eq] at hp
        case bool =>
          obtain ⟨b, rfl, rfl⟩ := DataW.trod_bool hu h
          simp only [datL, Option.some.injEq] at hd
          subst hd
          exact lrep_one (.bool b)
        case int k =>
          obtain ⟨n, rfl, rfl, _⟩ := DataW.trod_int hu h
          simp only [datL, Option.some.injEq] at hd
          subst hd
          exact lrep_one (.int k n)
        case string =>
          obtain ⟨s, rfl, rfl, _⟩ := DataW.trod_string hu h
          simp [datL] at hd
        case slice e =>
          rcases Deep.open_slice hu h with ⟨rfl, rfl⟩ | ⟨a, len, cap, m, n, D, Pl, rfl, _, _, _, _, rfl, _⟩ <;> simp [datL] at hd
        case struct fs =>
          obtain ⟨xs, n, hn, rfl, hl, hxl, hf⟩ := DataW.trod_struct hu h
          obtain rfl : fuel = n := by omega
          have key : ∀ (l : List Field) (zs : List (DataW Unit × List MemPlace)) (o : Nat) (ys : List LV), inRow P l o (szT P t) = true → l.length = zs.length →
              (∀ (i : Nat) (f : Field), l[i]? = some f → plainT P d f.type = true ∧ DataW.trod (fun _ => ()) P w base sp held fuel f.type ((cs.drop f.offset).take (P.cellsOf f.type)) = zs[i]?) → datLs (zs.map (·.1)) = some ys → LRep w ys (cs.drop o) := by
            intro l
            induction l with
            | nil =>
              intro zs o ys ho hlen _ hy
              obtain rfl := List.eq_nil_of_length_eq_zero hlen.symm
              simp only [List.map_nil, datLs, Option.some.injEq] at hy
              subst hy
              simp only [inRow, beq_iff_eq] at ho
              refine ⟨?_, by simp⟩
              rw [List.length_drop, hl, ho]; simp [szT, Program.cellsOf]
            | cons f l ih =>
              intro zs o ys ho hlen hall hy
              match zs, hlen with
              | z :: zs, hlen =>
                simp only [inRow, Bool.and_eq_true, beq_iff_eq] at ho
                obtain ⟨a, b, ha, hb, rfl⟩ := datLs_cons hy
                obtain ⟨hpf, hz⟩ := hall 0 f rfl
                have h1 := trod_flat fuel d f.type _ z a hpf (by simpa using hz) ha
                have h2 := ih zs _ b ho.2 (by simpa using hlen) (fun i g hg => by simpa using hall (i + 1) g (by simpa using hg)) hb
                have := lrep_append h1 h2
                rw [ho.1] at this
                rw [show cs.drop o = (cs.drop o).take (szT P f.type) ++ cs.drop (o + szT P f.type) by rw [← List.drop_drop, List.take_append_drop]]
                exact this
          have := key fs.toList xs 0 ys hp.1 (by simp [hxl]) (fun i f hi => ⟨by
            have := hp.2
            rw [List.all_eq_true] at this
            exact this f (List.mem_of_getElem? hi), hf i f (by simpa using hi)⟩) (by simpa [datL] using hd)
          simpa using this
        case array n e =>
          obtain ⟨xs, m, hm, rfl, hl, hxl, hf⟩ := DataW.trod_array hu h
          obtain rfl : fuel = m := by omega
          have key : ∀ (k : Nat) (ys : List LV), k ≤ n → datLs ((xs.drop (n - k)).map (·.1)) = some ys → LRep w ys (cs.drop ((n - k) * szT P e)) := by
            intro k
            induction k with
            | zero =>
              intro ys _ hy
              rw [Nat.sub_zero, ← hxl, List.drop_length] at hy
              simp only [List.map_nil, datLs, Option.some.injEq] at hy
              subst hy
              refine ⟨?_, by simp⟩
              rw [List.length_drop, hl]
              have : P.cellsOf t = n * szT P e := hp.1
              rw [this]; simp
            | succ k ih =>
              intro ys hk hy
              have hlt : n - (k + 1) < xs.length := by omega
              rw [List.drop_eq_getElem_cons hlt, List.map_cons, show n - (k + 1) + 1 = n - k by omega] at hy
              obtain ⟨a, b, ha, hb, rfl⟩ := datLs_cons hy
              have h2 := ih b (by omega) hb
              have hfi := hf (n - (k + 1)) (by omega)
              rw [List.getElem?_eq_getElem hlt] at hfi
              have h1 := trod_flat fuel d e _ _ a hp.2 hfi ha
              have := lrep_append h1 h2
              have hmul : (n - (k + 1)) * szT P e + szT P e = (n - k) * szT P e := by
                rw [← Nat.succ_mul]; congr 1; omega
              rw [show cs.drop ((n - (k + 1)) * szT P e) = (cs.drop ((n - (k + 1)) * szT P e)).take (szT P e) ++ cs.drop ((n - k) * szT P e) by rw [← hmul, ← List.drop_drop, List.take_append_drop]]
              exact this
          have := key n ys (Nat.le_refl _) (by simpa [datL] using hd)
          simpa using this

theorem laid_cells {W : World} {laid : List (String × DataW Unit)} {name : String} {dat : DataW Unit} {ys : List LV} {g n : Nat} {t : TypeId} (hg : P.globalNamed name = some g) (hty : (P.globals[g]?).map (·.type) = some t) (hp : plainT P n t = true) (hd : datL dat = some ys)
    (hin : (name, dat) ∈ laid) (h : laidMet P laid W) : ∀ (j : Nat) (x : LV), ys[j]? = some x → ∃ u, cellRd W g j u ∧ Rep (cellRd W) x u := by
  obtain ⟨ps, hl, _⟩ := h
  have key : ∀ (l : List (String × DataW Unit)) (ps : List MemPlace), DataW.LaidVars P W l ps → (name, dat) ∈ l → ∀ (j : Nat) (x : LV), ys[j]? = some x → ∃ u, cellRd W g j u ∧ Rep (cellRd W) x u := by
    intro l
    induction l with
    | nil => intro ps _ hm; cases hm
    | cons a l ih =>
      intro ps hl hm
      obtain ⟨n', d'⟩ := a
      obtain ⟨g', t', cs, fuel, p, q, h1, h2, h3, h4, h5, _⟩ := hl
      rcases List.mem_cons.1 hm with heq | hm
      · simp only [Prod.mk.injEq] at heq
        obtain ⟨rfl, rfl⟩ := heq
        rw [hg] at h1
        obtain rfl := Option.some.inj h1
        rw [hty] at h2
        obtain rfl := Option.some.inj h2
        intro j x hj
        obtain ⟨_, hr⟩ := trod_flat fuel n t _ _ ys hp h4 hd
        obtain ⟨u, u1, u2⟩ := hr j x hj
        exact ⟨u, by show W.cell? _ = _; rw [World.var?_cell hg h3]; simpa using u1, u2⟩
      · exact ih q h5 hm
  exact key laid ps hl hin
end
end Go.Abs
