/-
  THE OPERATIONS THAT ONLY RECKON, all of them: 'pv_sound'.
-/
import Derived.Test.YtajeoodipplmlaaDoorAbs5
set_option linter.all false
namespace Go.Abs
open Go Go.RowKit

section
variable {P : Program} {G : Nat → Option (List LV)} {H : Nat → Bool} {X : Ctx} {σ : List Blk} {R : RowsA} {n : Nat} {env : Env} {a : Act}

theorem run_equalIn_nilp (w : World) (d : Nat) (t te : TypeId) (p : Option Addr) (hu : P.underlying t = some (.pointer te)) : (Op.equalIn (d + 1) t (.pointer p) (.pointer none)).run P w = .ok p.isNone w := by
  rw [Op.equalIn]
  cases p <;> simp [run_underlying hu]

theorem binV_sound {op : BinOp} {t : TypeId} {S S' : Prop} {x y v : AV} {r q : Value} (h : binV P op t S x y = some (S', v)) (hS : S') (hx : RepV X x r) (hy : RepV X y q) :
    S' → S ∧ ∃ u, RepV X v u ∧ ∀ w (ox oy : Operand), ((do eqGuard op t ox oy r q; binOp op t r q) : Sem Value).run P w = .ok u w := by
  intro _
  unfold binV at h
  split at h
  · rename_i k m k' m'
    rw [repL_int hx, repL_int hy]
    obtain ⟨h1, u, h2, h3⟩ := binI_sound (X := X) (P := P) t h hS
    exact ⟨h1, u, h2, fun w ox oy => by simp [eqGuard_at_int, h3]⟩
  · rename_i b b'
    rw [repL_bool hx, repL_bool hy]
    split at h <;> simp only [Option.some.injEq, Prod.mk.injEq, reduceCtorEq] at h
    · rename_i hu
      obtain ⟨h1, rfl⟩ := h
      subst h1
      refine ⟨hS, _, mk_bool _, fun w ox oy => ?_⟩
      simp [eqGuard_at_bool, binOp, Op.equal, eq_depth, run_equalIn_bool' w 9999 t b b' hu]
    · rename_i hu
      obtain ⟨h1, rfl⟩ := h
      subst h1
      refine ⟨hS, _, mk_bool _, fun w ox oy => ?_⟩
      simp [eqGuard_at_bool, binOp, Op.equal, eq_depth, run_equalIn_bool' w 9999 t b b' hu]
  · rename_i l l'
    obtain ⟨s, rfl, hs⟩ := repL_str hx
    obtain ⟨s', rfl, hs'⟩ := repL_str hy
    have hb : (s.toList == s'.toList) = decide (l = l') := by
      rw [← hs, ← hs', Bool.eq_iff_iff, beq_iff_eq, decide_eq_true_iff]; exact strInts_iff
    split at h <;> simp only [Option.some.injEq, Prod.mk.injEq, reduceCtorEq] at h
    · obtain ⟨h1, rfl⟩ := h
      subst h1
      exact ⟨hS, _, mk_bool _, fun w ox oy => by simp [eqGuard_at_string, binOp, Op.stringOp, ← hb]⟩
    · obtain ⟨h1, rfl⟩ := h
      subst h1
      exact ⟨hS, _, mk_bool _, fun w ox oy => by simp [eqGuard_at_string, binOp, Op.stringOp, ← hb]⟩
  · rename_i i o
    obtain ⟨b, _, rfl⟩ := hx
    rw [repL_nilp hy]
    split at h <;> simp only [Option.some.injEq, Prod.mk.injEq, reduceCtorEq] at h
    · rename_i te hu
      obtain ⟨h1, rfl⟩ := h
      subst h1
      exact ⟨hS, _, mk_bool _, fun w ox oy => by simp [eqGuard_at_pointer, binOp, Op.equal, eq_depth, run_equalIn_nilp w 9999 t te _ hu]⟩
    · rename_i te hu
      obtain ⟨h1, rfl⟩ := h
      subst h1
      exact ⟨hS, _, mk_bool _, fun w ox oy => by simp [eqGuard_at_pointer, binOp, Op.equal, eq_depth, run_equalIn_nilp w 9999 t te _ hu]⟩
  · rw [repL_nilp hx, repL_nilp hy]
    split at h <;> simp only [Option.some.injEq, Prod.mk.injEq, reduceCtorEq] at h
    · rename_i te hu
      obtain ⟨h1, rfl⟩ := h
      subst h1
      exact ⟨hS, _, mk_bool _, fun w ox oy => by simp [eqGuard_at_pointer, binOp, Op.equal, eq_depth, run_equalIn_nilp w 9999 t te _ hu]⟩
    · rename_i te hu
      obtain ⟨h1, rfl⟩ := h
      subst h1
      exact ⟨hS, _, mk_bool _, fun w ox oy => by simp [eqGuard_at_pointer, binOp, Op.equal, eq_depth, run_equalIn_nilp w 9999 t te _ hu]⟩
  · rename_i xs ys
    obtain ⟨rs, rfl, hl, hxc⟩ := hx
    obtain ⟨qs, rfl, hl', hyc⟩ := hy
    split at h
    · rename_i hc
      have hm : P.eqGuardType P.depth t = false := by
        have := hc.1
        unfold flatEq at this
        simp at this
        exact this.1
      have key : ∀ (c : Bool) (w : World), eqCells xs ys = some c → (Op.equalIn 10000 t (.agg rs) (.agg qs)).run P w = .ok c w := fun c w he => eqAgg_run w hc.1 hc.2.1 hc.2.2 hxc hyc he
      split at h <;> simp only [Option.some.injEq, Prod.mk.injEq, reduceCtorEq] at h
      · rename_i c he
        obtain ⟨h1, rfl⟩ := h
        subst h1
        exact ⟨hS, _, mk_bool _, fun w ox oy => by simp [run_eqGuard_agg w _ t ox oy rs qs hm, run_eql_struct, key c w he]⟩
      · rename_i c he
        obtain ⟨h1, rfl⟩ := h
        subst h1
        exact ⟨hS, _, mk_bool _, fun w ox oy => by simp [run_eqGuard_agg w _ t ox oy rs qs hm, run_neq_struct, key c w he]⟩
    · cases h
  · cases h

theorem strInts_of (l : List Int) (h : ∀ m ∈ l, 0 ≤ m ∧ m < 256) : strInts (strOfNums l) = l := by
  unfold strInts
  rw [strOfNums_data, List.map_map]
  conv => rhs; rw [← List.map_id l]
  apply List.map_congr_left
  intro m hm
  obtain ⟨h0, h1⟩ := h m hm
  simp only [Function.comp, id]
  rw [UInt8.toNat_ofNat_of_lt' (by simp [UInt8.size]; omega)]
  omega

theorem convV_sound {src dst : TypeId} {S S' : Prop} {x v : AV} {r : Value} (h : convV P src dst S x = some (S', v)) (hS : S') (hx : RepV X x r) :
    S ∧ ∃ u, RepV X v u ∧ ∀ w', Agree H X w' → (convert src dst r).run P w' = .ok u w' := by
  unfold convV at h
  split at h
  · rename_i k m
    rw [repL_int hx]
    split at h
    · rename_i k1 k2 h1 h2
      simp only [Option.some.injEq, Prod.mk.injEq] at h
      obtain ⟨e1, rfl⟩ := h
      subst e1
      unfold intT at h1 h2
      cases hs : P.underlying src with
      | none => simp [hs, intD] at h1
      | some ds =>
        cases hd : P.underlying dst with
        | none => simp [hd, intD] at h2
        | some dd =>
          cases dd <;> simp [hd, intD] at h2
          subst h2
          refine ⟨hS, _, mk_int _ _, fun w' _ => ?_⟩
          simp [convert, run_underlying hs, run_underlying hd, Conv.intToInt]
    · cases h
  · rename_i own sz e
    split at h
    · rename_i et hs hd
      split at h
      · rename_i het
        simp only [Option.some.injEq, Prod.mk.injEq] at h
        obtain ⟨e1, rfl⟩ := h
        subst e1
        obtain ⟨hS0, hbytes⟩ := hS
        have hu8 : P.underlying et = some (.int .u8) := by
          unfold intT at het
          cases hq : P.underlying et with
          | none => simp [hq, intD] at het
          | some q => cases q <;> simp [hq, intD] at het; subst het; rfl
        obtain ⟨ad, cap, b, o, vf, rfl, h1, h2, h3, h4, h5, h6⟩ := slice_form (rep_slice hx)
        have hrange : ∀ m ∈ e.map byteOf, 0 ≤ m ∧ m < 256 := fun m hm => by
          obtain ⟨c, hc, rfl⟩ := List.mem_map.1 hm
          obtain ⟨m, rfl, h0, h1⟩ := hbytes c hc
          exact ⟨h0, h1⟩
        refine ⟨hS0, .string (strOfNums (e.map byteOf)), ?_, fun w' hw' => ?_⟩
        · have := Rep.str (Rd := X.Rd) (strOfNums (e.map byteOf))
          rw [strInts_of _ hrange] at this
          exact this
        · rcases h4 with rfl | rfl
          · cases ad with
            | none => rw [run_convert_bytes_nil w' src et hs hu8 _ _ dst hd]; rfl
            | some ad =>
              rw [run_convert_bytes_string w' src dst et (some ad) _ cap hs hu8 hd]
              rw [run_bytesToString w' ad _ cap [] (by simp [loadCells, loadCellsFrom])]
              rfl
          · refine run_convert_bytes_arg w' src et hs hu8 b o e.length cap (e.map byteOf) (by simp) (fun i hi => ?_) dst hd
            have hsz : sz = 1 := by
              obtain ⟨m, hm, _⟩ := hbytes e[i] (List.getElem_mem hi)
              have := h3 e[i] (List.getElem_mem hi)
              rw [hm] at this
              simpa using this.symm
            subst hsz
            have hrd := hw'.1 _ _ _ (h5 i 0 hi (by omega))
            obtain ⟨m, hm, _⟩ := hbytes e[i] (List.getElem_mem hi)
            have hrep := h6 i 0 e[i] (.int .u8 m) (List.getElem?_eq_getElem hi) (by rw [hm]; rfl)
            have hv : vf i 0 = .int .u8 m := by
              generalize vf i 0 = z at hrep
              cases hrep; rfl
            rw [hv] at hrd
            rw [show o + i = o + (i * 1 + 0) by omega, hrd]
            simp [List.getElem?_eq_getElem hi, hm, byteOf]
      · cases h
    · cases h
  · cases h

theorem fieldT_spec {t : TypeId} {f o s ft : Nat} (h : fieldT P t f = some (o, s, ft)) : ∃ fs fd, P.underlying t = some (.struct fs) ∧ fs[f]? = some fd ∧ fd.offset = o ∧ szT P fd.type = s ∧ fd.type = ft := by
  unfold fieldT fieldD at h
  split at h
  · rename_i fs hu
    cases hf : fs[f]? with
    | none => simp [hf] at h
    | some fd =>
      simp [hf] at h
      exact ⟨fs, fd, hu, hf, h.1, h.2.1, h.2.2⟩
  · cases h

theorem fieldAddrV_sound {t : TypeId} {f : Nat} {S S' : Prop} {x v : AV} {r : Value} (h : fieldAddrV P t f S x = some (S', v)) (hS : S') (hx : RepV X x r) :
    S ∧ ∃ u, RepV X v u ∧ ∀ w, (Instr.fieldAt t r f).run P w = .ok u w := by
  unfold fieldAddrV at h
  split at h
  · rename_i i off
    obtain ⟨b, hb, rfl⟩ := hx
    split at h
    · rename_i o s ft hf
      obtain ⟨fs, fd, hu, hfd, rfl, hs, _⟩ := fieldT_spec hf
      split at h
      · cases h
      · rename_i hs0
        simp only [Option.some.injEq, Prod.mk.injEq] at h
        obtain ⟨e1, rfl⟩ := h
        subst e1
        obtain ⟨ii, hi, hsz⟩ := info_of_sz (P := P) (t := fd.type) (by omega)
        refine ⟨hS, .pointer (some ⟨b, off + fd.offset, none⟩), ⟨b, hb, rfl⟩, fun w => ?_⟩
        simp [Instr.fieldAt, run_underlying hu, hfd, Instr.sureAddr, fieldPlace, run_sizeT hi, hsz, hs, hs0, Addr.add_lit]
    · cases h
  · rename_i cells off
    obtain ⟨b, o', rfl, hc⟩ := hx
    split at h
    · rename_i o s ft hf
      obtain ⟨fs, fd, hu, hfd, rfl, hs, _⟩ := fieldT_spec hf
      split at h
      · cases h
      · rename_i hs0
        simp only [Option.some.injEq, Prod.mk.injEq] at h
        obtain ⟨e1, rfl⟩ := h
        subst e1
        obtain ⟨ii, hi, hsz⟩ := info_of_sz (P := P) (t := fd.type) (by omega)
        refine ⟨hS, .pointer (some ⟨b, o' + (off + fd.offset), none⟩), ⟨b, o', rfl, hc⟩, fun w => ?_⟩
        simp [Instr.fieldAt, run_underlying hu, hfd, Instr.sureAddr, fieldPlace, run_sizeT hi, hsz, hs, hs0, Addr.add_lit, Nat.add_assoc]
    · cases h
  · cases h

/-- A part of a struct's cells. -/
theorem part_sound {cells : List LV} {rs : Array Value} {t : TypeId} {o : Nat} {v : AV} (hl : rs.size = cells.length)
    (hc : ∀ (j : Nat) (x : LV), cells[j]? = some x → ∃ u, rs[j]? = some u ∧ RepL X x u) (h : readV P t cells o = some v) : ∃ u, RepV X v u ∧ ∀ w, (part t rs o).run P w = .ok u w := by
  unfold readV at h
  cases hd : P.underlying t with
  | none => simp [hd] at h
  | some d =>
    simp only [hd] at h
    by_cases hag : aggD (some d) = true
    · rw [if_pos hag] at h
      obtain ⟨ii, hii, hsz⟩ := info_of_und hd
      split at h
      · rename_i hle
        obtain rfl := Option.some.inj h
        refine ⟨.agg (rs.extract o (o + szT P t)), ⟨_, rfl, by simp; omega, fun j x hx => ?_⟩, fun w => ?_⟩
        · have hj : j < szT P t := by
            have := (List.getElem?_eq_some_iff.1 hx).1
            simp at this; omega
          rw [List.getElem?_take, if_pos hj, List.getElem?_drop] at hx
          obtain ⟨u, h1, h2⟩ := hc _ x hx
          refine ⟨u, ?_, h2⟩
          rw [Array.getElem?_extract, if_pos (by omega)]; exact h1
        · simp [part, run_isAggT hd, hag, run_sizeT hii, hsz]
      · cases h
    · rw [if_neg hag] at h
      cases hx : cells[o]? with
      | none => simp [hx] at h
      | some x =>
        simp [hx] at h; subst h
        obtain ⟨u, h1, h2⟩ := hc o x hx
        exact ⟨u, h2, fun w => by simp [part, run_isAggT hd, hag, h1]⟩

theorem fieldV_sound {t : TypeId} {f : Nat} {S S' : Prop} {x v : AV} {r : Value} (h : fieldV P t f S x = some (S', v)) (hS : S') (hx : RepV X x r) :
    S ∧ ∃ u, RepV X v u ∧ ∀ w, (Instr.field t r f).run P w = .ok u w := by
  unfold fieldV at h
  split at h
  · rename_i cells
    obtain ⟨rs, rfl, hl, hc⟩ := hx
    split at h
    · rename_i o s ft hf
      obtain ⟨fs, fd, hu, hfd, rfl, hs, rfl⟩ := fieldT_spec hf
      cases hr : readV P fd.type cells fd.offset with
      | none => simp [hr] at h
      | some u =>
        simp only [hr, Option.map_some, Option.some.injEq, Prod.mk.injEq] at h
        obtain ⟨e1, rfl⟩ := h
        subst e1
        obtain ⟨q, h1, h2⟩ := part_sound (P := P) hl hc hr
        exact ⟨hS, q, h1, fun w => by simp [Instr.field, run_underlying hu, hfd, asAgg, h2]⟩
    · cases h
  · cases h

theorem arrT_spec {t : TypeId} {len e : Nat} (h : arrT P t = some (len, e)) : P.underlying t = some (.array len e) := by
  unfold arrT arrD at h
  split at h
  · rename_i m e' hu
    simp only [Option.some.injEq, Prod.mk.injEq] at h
    obtain ⟨rfl, rfl⟩ := h
    exact hu
  · cases h
theorem elemT_spec {t e : TypeId} (h : elemT P t = some e) : P.underlying t = some (.slice e) := by
  unfold elemT elemD at h
  split at h
  · rename_i e' hu
    obtain rfl := Option.some.inj h
    exact hu
  · cases h

theorem arrAddrV_sound {t : TypeId} {S S' : Prop} {x y v : AV} {r q : Value} (h : arrAddrV P t S x y = some (S', v)) (hS : S') (hx : RepV X x r) (hy : RepV X y q) :
    S ∧ ∃ u, RepV X v u ∧ ∀ w, (Instr.indexAt t r q).run P w = .ok u w := by
  unfold arrAddrV at h
  split at h
  · rename_i i off k m
    obtain ⟨b, hb, rfl⟩ := hx
    rw [repL_int hy]
    split at h
    · rename_i len e ha
      split at h
      · rename_i hlen
        simp only [Option.some.injEq, Prod.mk.injEq] at h
        obtain ⟨e1, rfl⟩ := h
        subst e1
        obtain ⟨ii, hi, hsz⟩ := info_of_sz hlen.2
        refine ⟨hS.1, .pointer (some ⟨b, off + m.toNat * szT P e, none⟩), ⟨b, hb, rfl⟩, fun w => ?_⟩
        simp [Instr.indexAt, run_underlying (arrT_spec ha), asIntOf, Instr.sureAddr, hS.2.1, hS.2.2, run_sizeT hi, hsz, Addr.add_lit]
      · cases h
    · cases h
  · rename_i cells off k m
    obtain ⟨b, o, rfl, hc⟩ := hx
    rw [repL_int hy]
    split at h
    · rename_i len e ha
      split at h
      · rename_i hlen
        simp only [Option.some.injEq, Prod.mk.injEq] at h
        obtain ⟨e1, rfl⟩ := h
        subst e1
        obtain ⟨ii, hi, hsz⟩ := info_of_sz hlen.2
        refine ⟨hS.1, .pointer (some ⟨b, o + (off + m.toNat * szT P e), none⟩), ⟨b, o, rfl, hc⟩, fun w => ?_⟩
        simp [Instr.indexAt, run_underlying (arrT_spec ha), asIntOf, Instr.sureAddr, hS.2.1, hS.2.2, run_sizeT hi, hsz, Addr.add_lit, Nat.add_assoc]
      · cases h
    · cases h
  · cases h

theorem indexV_sound {t : TypeId} {S S' : Prop} {x y v : AV} {r q : Value} (h : indexV P t S x y = some (S', v)) (hS : S') (hx : RepV X x r) (hy : RepV X y q) :
    S ∧ ∃ u, RepV X v u ∧ ∀ w, (Instr.index t r q).run P w = .ok u w := by
  unfold indexV at h
  split at h
  · rename_i cells k m
    obtain ⟨rs, rfl, hl, hc⟩ := hx
    rw [repL_int hy]
    split at h
    · rename_i len e ha
      split at h
      · rename_i hcnd
        cases hx : cells[m.toNat]? with
        | none => simp [hx] at h
        | some x =>
          simp only [hx, Option.map_some, Option.some.injEq, Prod.mk.injEq] at h
          obtain ⟨e1, rfl⟩ := h
          subst e1
          obtain ⟨u, h1, h2⟩ := hc _ x hx
          obtain ⟨ii, hi, hsz⟩ := info_of_sz (P := P) (t := e) (by omega)
          obtain ⟨d, hd⟩ := Option.isSome_iff_exists.1 hcnd.2.2
          have hag : aggD (some d) = false := by have := hcnd.1; unfold aggT at this; rw [hd] at this; exact this
          refine ⟨hS.1, u, h2, fun w => ?_⟩
          simp [Instr.index, run_underlying (arrT_spec ha), asIntOf, hS.2.1, hS.2.2, run_sizeT hi, hsz, hcnd.2.1, part, run_isAggT hd, hag, h1]
      · cases h
    · cases h
  · cases h

theorem unV_sound {op : UnOp} {S S' : Prop} {x v : AV} {r : Value} (h : unV op S x = some (S', v)) (hS : S') (hx : RepV X x r) :
    S ∧ ∃ u, RepV X v u ∧ ∀ w, (Op.unary op r).run P w = .ok u w := by
  unfold unV at h
  split at h
  · rename_i b
    rw [repL_bool hx]
    split at h
    · simp only [Option.some.injEq, Prod.mk.injEq] at h
      obtain ⟨e1, rfl⟩ := h
      subst e1
      exact ⟨hS, _, mk_bool _, fun w => by simp [Op.unary]⟩
    · cases h
  · cases h
end
end Go.Abs
