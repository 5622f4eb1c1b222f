/-
  'aop_sound': every operation; 'aops_sound': a statement whose order is fixed.
-/
import Derived.Test.YtajeoodipplmlaaDoorAbs10
set_option linter.all false
namespace Go.Abs
open Go Go.RowKit

section
variable {P : Program} {G : Nat → Option (List LV)} {H Hl He : Nat → Bool} {X X' : Ctx} {σ : List Blk} {R : RowsA} {n : Nat} {env : Env} {a : Act}

theorem opt_cells {x : Operand} {vs : List LV} (hI : Inv G X σ R) (he : EnvOk X n env a) (h : (opA G env x).bind AV.cellsL = some vs) : CellsR X vs (a.eval x).cells := by
  cases hx : opA G env x with
  | none => simp [hx] at h
  | some v =>
    simp only [hx, Option.bind_some] at h
    exact cellsL_sound h (opA_sound hI he hx)

theorem cells_one {vs : List LV} {rs : Array Value} (h : CellsR X vs rs) : ∀ u ∈ rs.toList, u.oneCell' = true := by
  intro u hu
  obtain ⟨j, hj⟩ := List.mem_iff_getElem?.1 hu
  rw [Array.getElem?_toList] at hj
  have hlt : j < vs.length := by rw [← h.1]; exact (Array.getElem?_eq_some_iff.1 hj).1
  obtain ⟨u', k1, k2⟩ := h.2 j vs[j] (List.getElem?_eq_getElem hlt)
  rw [hj] at k1
  obtain rfl := Option.some.inj k1
  exact oneCell_of_rep k2

theorem constL_cap0 {c : Value} {z : Nat} {e : List (List LV)} (h : constL c = some (.slice .cap0 z e)) : c = .slice none 0 0 := by
  unfold constL at h
  split at h <;> simp_all

theorem aop_sound (hI : Inv G X σ R) (he : EnvOk X n env a) {o : Oper} {K : AV → List Blk → RowsA → Prop} (h : aop P G Hl He env σ R K o.op) : OpOk P G He X a K o := by
  have pure' : ∀ {op : Op}, o.op = op → (match pv P G Hl env σ op with | some (S, v) => S ∧ K v σ R | none => False) → OpOk P G He X a K o := by
    intro op ho hp
    cases hpv : pv P G Hl env σ op with
    | none => rw [hpv] at hp; exact hp.elim
    | some Sv =>
      obtain ⟨S, v⟩ := Sv
      rw [hpv] at hp
      exact pv_ok hI he (by rw [ho]; exact hpv) hp.1 hp.2
  cases hop : o.op <;> rw [hop] at h <;> try (exact pure' hop h)
  case alloc t =>
    simp only [aop] at h
    split at h
    · rename_i cs hz
      intro Kc Q hc
      obtain ⟨i, z, hi, hzv, hcr⟩ := zeroA_sound (X := X) hz
      obtain ⟨hE, hI'⟩ := hI.alloc t z.cells cs hcr.1 hcr.2
      have hrun : (execOp a.eval o).run P X.w = .ok (.value (.pointer (some ⟨X.w.heap.size, 0, none⟩))) (X.w.alloc (.cells z.cells t)) := by
        simp [execOp, hop, Instr.alloc, zeroValue, typeInfo, hi, hzv, newVar, newRow]
      unfold Oper.wp
      rw [hrun]
      refine hc _ _ _ _ _ h hE (HeldEq.of_mu fun b hb => heap_alloc_old _ _ _ (hI.muLt b hb)) hI' ?_
      refine ⟨X.w.heap.size, ?_, rfl⟩
      simp only
      rw [← hI.muLen, List.getElem?_append_right (Nat.le_refl _)]; simp
    · cases h
  case box t x =>
    simp only [aop] at h
    split at h
    · rename_i cs hx
      intro Kc Q hc
      have hcr := opt_cells hI he hx
      obtain ⟨hE, hI'⟩ := hI.alloc t (a.eval x).cells cs hcr.1 hcr.2
      have hrun : (execOp a.eval o).run P X.w = .ok (.value (.pointer (some ⟨X.w.heap.size, 0, none⟩))) (X.w.alloc (.cells (a.eval x).cells t)) := by
        simp [execOp, hop, Instr.box, newVar, newRow]
      unfold Oper.wp
      rw [hrun]
      refine hc _ _ _ _ _ h.2 hE (HeldEq.of_mu fun b hb => heap_alloc_old _ _ _ (hI.muLt b hb)) hI' ?_
      refine ⟨X.w.heap.size, ?_, rfl⟩
      simp only
      rw [← hI.muLen, List.getElem?_append_right (Nat.le_refl _)]; simp
    · cases h
  case store t x y =>
    simp only [aop] at h
    split at h
    · rename_i i off vs hx hy
      split at h
      · rename_i B hB
        obtain ⟨hHe, hpos, hsz, hle, hK⟩ := h
        intro Kc Q hc
        obtain ⟨b, hb, hxv⟩ := opA_sound hI he hx
        have hcr := opt_cells hI he hy
        obtain ⟨cs, h1, h2, h3⟩ := hI.blk i B b hB hb
        obtain ⟨ii, hi, hs⟩ := info_of_sz (P := P) (t := t) (by omega)
        have hst := run_storeCells_at P b off B.T (a.eval y).cells.toList 0 cs X.w h1 (by simp [hcr.1]; omega) (cells_one hcr)
        have hrun : (execOp a.eval o).run P X.w = .ok .skip (X.w.setRow b (cs.toList.take off ++ (a.eval y).cells.toList ++ cs.toList.drop (off + (a.eval y).cells.toList.length)).toArray) := by
          simp only [Nat.add_zero] at hst
          simp [execOp, hop, Instr.storeAt, Instr.sureAddr, hxv, storeVar, run_sizeT hi, hs, hcr.1, hsz]
          rw [show (a.eval y).cells.toList.length = (a.eval y).cells.size by simp] at hst
          rw [hcr.1, hsz] at hst
          simp only [List.append_assoc] at hst
          rw [hst]; rfl
        obtain ⟨k1, k2⟩ := splice_sound (X := X) (off := off) ⟨h2, h3⟩ hcr hle (cs.toList.take off ++ (a.eval y).cells.toList ++ cs.toList.drop (off + (a.eval y).cells.toList.length)).toArray (by simp)
        obtain ⟨hE, hI'⟩ := hI.setBlk i b B hB hb _ _ k1 k2
        unfold Oper.wp
        rw [hrun]
        refine hc _ _ _ _ _ hK hE (fun j b' hb' hj => ?_) hI' rfl
        refine setRow_other X.w b b' _ (fun h' => ?_)
        subst h'
        have := nodup_get hI.nodup hb hb'
        subst this
        rw [hHe] at hj; cases hj
      · cases h
    · cases h
  case buildSlice t len parts =>
    simp only [aop] at h
    split at h
    · rename_i et vs het hvs
      split at h
      · rename_i es hes
        obtain ⟨hlen, hsmall, hpos, hsz, hK⟩ := h
        intro Kc Q hc
        have hp := opParts_sound hI he _ _ hvs
        have hu := elemT_spec het
        obtain ⟨ie, hie, his⟩ := info_of_sz hpos
        cases es with
        | nil =>
          simp only [List.length_nil] at hlen
          subst hlen
          have hvs0 : vs = [] := by
            cases vs with
            | nil => rfl
            | cons p vs =>
              obtain ⟨i, v⟩ := p
              simp only [partsSh] at hes
              (repeat' split at hes) <;> simp at hes
          subst hvs0
          have hp0 : parts = #[] := by
            cases hp' : parts.toList with
            | nil => simpa using hp'
            | cons p l => rw [hp'] at hp; cases hp
          have hrun : (execOp a.eval o).run P X.w = .ok (.value (.slice (some ⟨X.w.heap.size, 0, none⟩) 0 0)) (X.w.alloc (.cells #[] et)) := by
            simp [execOp, hop, Instr.buildSlice, run_underlying hu, run_sizeT hie, hp0, Instr.fill, newRow, Array.range_zero']
          obtain ⟨hE, hI'⟩ := hI.alloc et #[] [] rfl (by simp)
          -- the empty block is no variable of ours
          have hE2 : Evo X { X with w := X.w.alloc (.cells #[] et) } :=
            { os := rfl, tape := rfl, output := rfl, size := by simp, mu := ⟨[], by simp, by simp⟩,
              rows := fun i r hr => ⟨r, hr, rfl, Nat.le_refl _, fun _ => rfl, .inl ⟨rfl, fun _ => rfl⟩⟩,
              news := fun i r' b hi hr => (by simp only at hr; rw [List.getElem?_eq_none hi] at hr; cases hr),
              Z := rfl, mem := hE.mem |> fun f b h1 h2 h3 => f b h1 h2 h3, memrow := hE.memrow }
          have hI2 : Inv G { X with w := X.w.alloc (.cells #[] et) } σ R :=
            { muLen := hI.muLen, nodup := hI.nodup,
              blk := fun i B b hB hb => by
                obtain ⟨cs', h1, h2, h3⟩ := hI.blk i B b hB hb
                exact ⟨cs', (heap_alloc_old X.w _ b (heap_lt h1)).trans h1, h2, hI.blkRep hE2 h3⟩
              rowsR := hI.rowsR,
              row := fun i r b hr hb => by
                obtain ⟨h1, h2, h3, cs', cap, h4, h5⟩ := hI.row i r b hr hb
                exact ⟨h1, h2, h3, cs', cap, (heap_alloc_old X.w _ b (heap_lt h4)).trans h4, h5⟩
              row0 := hI.row0, inj := hI.inj, zlt := fun b o hz => by have := hI.zlt b o hz; simp; omega, glob := hI.glob' hE2 }
          unfold Oper.wp
          rw [hrun]
          exact hc _ _ _ _ _ hK hE2 (HeldEq.of_mu fun b hb => heap_alloc_old _ _ _ (hI.muLt b hb)) hI2 ⟨rfl, _, rfl⟩
        | cons e es =>
          obtain ⟨ii, zv, hii, hzv⟩ : ∃ ii zv, P.info? et = some ii ∧ ii.zero = some zv := by
            have := hK.1
            obtain ⟨i, z, h1, h2, _⟩ := zeroOk_spec this
            exact ⟨i, z, h1, h2⟩
          rw [hie] at hii
          obtain rfl := Option.some.inj hii
          simp only [List.length_cons] at hlen
          obtain ⟨rs, f1, f2, f3, f4, f5⟩ := parts_fill (sz := szT P et) vs _ 0 (e :: es) ((Array.range (len * szT P et)).map (zv.cells[· % zv.cells.size]!)) hp hes (by simp; rw [← hlen]; simp)
          have hbig : len * szT P et ≤ 16777216 := Nat.le_trans (Nat.mul_le_mul (show len ≤ 1000 by omega) (show szT P et ≤ 1000 by omega)) (by decide)
          have hne : ¬ len * szT P et = 0 := by
            rw [Nat.mul_eq_zero]; omega
          have hrun : (execOp a.eval o).run P X.w = .ok (.value (.slice (some ⟨X.w.heap.size, 0, none⟩) len len)) (X.w.alloc (.cells rs et)) := by
            have := run_buildSlice (P := P) X.w t et len (parts.map fun (i, x) => (i, a.eval x)) rs ie zv hu hie hzv (by rw [his]; omega) (by rw [his]; exact hne) (by rw [his]; simpa using f1)
            simp [execOp, hop, this]
          obtain ⟨hE, hI'⟩ := hI.newRow et rs (szT P et) len len hpos (by rw [f2]; simp) (Nat.le_refl _) (by simp only [maxLen]; omega)
          unfold Oper.wp
          rw [hrun]
          refine hc _ _ _ _ _ hK.2 hE (HeldEq.of_mu fun b hb => heap_alloc_old _ _ _ (hI.muLt b hb)) hI' ?_
          have hRl : X.rows.length = R.length := by rw [← hI.rowsR]; simp
          refine row_rep (q := ⟨some X.w.heap.size, szT P et, et, len⟩) (cs := rs) (vf := fun i j => (rs[i * szT P et + j]?).getD Go.undef) hI' (by simp only; rw [← hRl]; simp) rfl rfl hlen.symm hlen.symm (heap_alloc_new X.w _) (by rw [f2]; simp) (by simp; omega) (by simp only [maxLen]; omega) f3 (fun i j hi hj => ?_) (fun i j c x h1 h2 => ?_)
          · have hlen2 := f3 (e :: es)[i] (List.getElem_mem hi)
            obtain ⟨u, u1, _⟩ := f5 i j _ _ (List.getElem?_eq_getElem hi) (List.getElem?_eq_getElem (by rw [hlen2]; exact hj))
            rw [Nat.zero_add] at u1
            rw [u1]; rfl
          · obtain ⟨u, u1, u2⟩ := f5 i j c x h1 h2
            rw [Nat.zero_add] at u1
            rw [u1]; exact hE.rep hI u2
      · split at h
        · rename_i es hes
          obtain ⟨hlen, h0, hsmall, hpos, hsz, hzo, hK⟩ := h
          intro Kc Q hc
          have hp := opParts_sound hI he _ _ hvs
          have hu := elemT_spec het
          obtain ⟨ie, hie, his⟩ := info_of_sz hpos
          obtain ⟨ii, zv, hii, hzv⟩ : ∃ ii zv, P.info? et = some ii ∧ ii.zero = some zv := by
            obtain ⟨i, z, h1, h2, _⟩ := zeroOk_spec hzo
            exact ⟨i, z, h1, h2⟩
          rw [hie] at hii
          obtain rfl := Option.some.inj hii
          obtain ⟨rs, f1, f2, f3, f4, f5⟩ := parts_fillV (sz := szT P et) vs _ 0 es ((Array.range (len * szT P et)).map (zv.cells[· % zv.cells.size]!)) hp hes (by simp; rw [hlen]; exact Nat.le_refl _)
          have hbig : len * szT P et ≤ 16777216 := Nat.le_trans (Nat.mul_le_mul (show len ≤ 1000 by omega) (show szT P et ≤ 1000 by omega)) (by decide)
          have hne : ¬ len * szT P et = 0 := by
            rw [Nat.mul_eq_zero]; omega
          have hrun : (execOp a.eval o).run P X.w = .ok (.value (.slice (some ⟨X.w.heap.size, 0, none⟩) len len)) (X.w.alloc (.cells rs et)) := by
            have := run_buildSlice (P := P) X.w t et len (parts.map fun (i, x) => (i, a.eval x)) rs ie zv hu hie hzv (by rw [his]; omega) (by rw [his]; exact hne) (by rw [his]; simpa using f1)
            simp [execOp, hop, this]
          obtain ⟨hE, hI'⟩ := hI.alloc et rs es (by rw [f2, f3, hlen]; simp) (fun j x hx => by
            obtain ⟨u, u1, u2⟩ := f5 j x hx
            exact ⟨u, by simpa using u1, u2⟩)
          unfold Oper.wp
          rw [hrun]
          refine hc _ _ _ _ _ hK hE (HeldEq.of_mu fun b hb => heap_alloc_old _ _ _ (hI.muLt b hb)) hI' ?_
          refine ⟨X.w.heap.size, len, ?_, rfl, Nat.le_refl _, by simp only [maxLen]; omega⟩
          simp only
          rw [← hI.muLen, List.getElem?_append_right (Nat.le_refl _)]; simp
        · exact h.elim
    · cases h
  case indexAddr t x i =>
    simp only [aop] at h
    split at h
    · rename_i own sz e k m hx hi
      split at h
      · rename_i et het
        obtain ⟨hsz, hpos, ⟨h0, hlt⟩, hK⟩ := h
        intro Kc Q hc
        obtain ⟨ad, cap, b, o', vf, hval, h1, h2, h3, h4, h5, h6⟩ := slice_form (rep_slice (opA_sound hI he hx))
        have hix := repL_int (opA_sound hI he hi)
        obtain ⟨ie, hie, his⟩ := info_of_sz (P := P) (t := et) (by omega)
        have had : ad = some ⟨b, o', none⟩ := by
          rcases h4 with rfl | h4
          · simp at hlt
          · exact h4
        have hrun : (execOp a.eval o).run P X.w = .ok (.value (.pointer (some ⟨b, o' + m.toNat * sz, none⟩))) X.w := by
          have hm2 : m < (e.length : Int) := by omega
          simp [execOp, hop, Instr.indexAt, hix, hval, had, asIntOf, run_underlying (elemT_spec het), h0, hm2, run_sizeT hie, his, hsz, add_lit]
        unfold Oper.wp
        rw [hrun]
        refine hc _ _ _ _ X hK (Evo.refl hI) HeldEq.refl' hI ?_
        refine ⟨b, o' + m.toNat * sz, by simp, fun j y hj => ?_⟩
        have hlen := h3 e[m.toNat] (List.getElem_mem hlt)
        have hjs : j < sz := by rw [← hlen]; exact (List.getElem?_eq_some_iff.1 hj).1
        exact ⟨vf m.toNat j, by rw [Nat.add_assoc]; exact h5 m.toNat j hlt hjs, h6 m.toNat j _ y (List.getElem?_eq_getElem hlt) hj⟩
      · cases h
    · rename_i i0 off sz len k m hx hi
      split at h
      · rename_i et het
        obtain ⟨hsz, hpos, ⟨h0, hlt⟩, hK⟩ := h
        intro Kc Q hc
        obtain ⟨b, cap, hb, hval, _⟩ := opA_sound hI he hx
        have hix := repL_int (opA_sound hI he hi)
        obtain ⟨ie, hie, his⟩ := info_of_sz (P := P) (t := et) (by omega)
        have hrun : (execOp a.eval o).run P X.w = .ok (.value (.pointer (some ⟨b, off + m.toNat * sz, none⟩))) X.w := by
          have hm2 : m < (len : Int) := by omega
          simp [execOp, hop, Instr.indexAt, hix, hval, asIntOf, run_underlying (elemT_spec het), h0, hm2, run_sizeT hie, his, hsz, add_lit]
        unfold Oper.wp
        rw [hrun]
        exact hc _ _ _ _ X hK (Evo.refl hI) HeldEq.refl' hI ⟨b, hb, rfl⟩
      · cases h
    · rename_i u v hno hno2 hx hi
      cases hpv : arrAddrV P t True u v with
      | none => rw [hpv] at h; exact h.elim
      | some Sv =>
        obtain ⟨S, w⟩ := Sv
        rw [hpv] at h
        obtain ⟨_, q, k1, k2⟩ := arrAddrV_sound (P := P) (X := X) hpv h.1 (opA_sound hI he hx) (opA_sound hI he hi)
        intro Kc Q hc
        unfold Oper.wp
        rw [show (execOp a.eval o).run P X.w = .ok (.value q) X.w by simp [execOp, hop, k2]]
        exact hc _ _ _ _ X h.2 (Evo.refl hI) HeldEq.refl' hI k1
    · cases h
  case binOp op t x y yt =>
    simp only [aop] at h
    split at h
    · rename_i own sz e z0 e0 hx hy
      intro Kc Q hc
      obtain ⟨ad, cap, b, o', vf, hval, h1, h2, h3, h4, h5, h6⟩ := slice_form (rep_slice (opA_sound hI he hx))
      have key : ∀ (c : Value) (te : TypeId), y = .const c → P.underlying t = some (.slice te) → a.eval y = .slice none 0 0 ∧ (Op.equalIn (9999 + 1) t (.slice ad e.length cap) (.slice none 0 0)).run P X.w = .ok ad.isNone X.w := by
        intro c te hyc hu
        subst hyc
        refine ⟨?_, ?_⟩
        · simp only [opA, opR, constA] at hy
          cases hcl : constL c with
          | none => simp [hcl] at hy
          | some l => simp [hcl, unI] at hy; subst hy; exact constL_cap0 hcl
        · rw [Op.equalIn]
          cases ad <;> simp [run_underlying hu]
      split at h
      · rename_i c te hu
        obtain ⟨ky, kr⟩ := key c te rfl hu
        have hrun : (execOp a.eval o).run P X.w = .ok (.value (.bool ad.isNone)) X.w := by
          simp only [execOp, hop, hval, ky]
          simp [eqGuard_at_slice, binOp, Op.equal, eq_depth, kr]
        unfold Oper.wp
        rw [hrun]
        cases ad with
        | none =>
          refine hc _ _ _ _ X (h.1 ?_) (Evo.refl hI) HeldEq.refl' hI (mk_bool true)
          rcases h4 with h4 | h4
          · exact h4
          · cases h4
        | some ad => exact hc _ _ _ _ X h.2 (Evo.refl hI) HeldEq.refl' hI (mk_bool false)
      · rename_i c te hu
        obtain ⟨ky, kr⟩ := key c te rfl hu
        have hrun : (execOp a.eval o).run P X.w = .ok (.value (.bool (!ad.isNone))) X.w := by
          simp only [execOp, hop, hval, ky]
          simp [eqGuard_at_slice, binOp, Op.equal, eq_depth, kr]
        unfold Oper.wp
        rw [hrun]
        cases ad with
        | none =>
          refine hc _ _ _ _ X (h.1 ?_) (Evo.refl hI) HeldEq.refl' hI (mk_bool false)
          rcases h4 with h4 | h4
          · exact h4
          · cases h4
        | some ad => exact hc _ _ _ _ X h.2 (Evo.refl hI) HeldEq.refl' hI (mk_bool true)
      · cases h
    · exact pure' hop h
  case call c =>
    simp only [aop] at h
    split at h
    · rename_i x hcal
      split at h
      · rename_i f caps vs hx hvs
        intro Kc Q hc
        obtain ⟨rs, hfv, hlc, hcap⟩ := opA_sound hI he hx
        obtain ⟨k1, k2⟩ := opAll_sound hI he _ _ hvs
        obtain ⟨hcall, hcalls⟩ := h
        have hrun : (execOp a.eval o).run P X.w = .ok (.enter f (c.args.map a.eval ++ rs)) X.w := by
          simp only [execOp, hop, resolve, hcal]
          simp [hfv, Deferred.ofValue, invoke, run_callFunc hcall]
        unfold Oper.wp
        rw [hrun]
        refine (hcalls X (c.args.map a.eval ++ rs) hI (by simp [k1, hlc]) (fun j y hj => ?_)).mono ?_
        · rcases Nat.lt_or_ge j vs.length with hlt | hge
          · rw [List.getElem?_append_left hlt] at hj
            obtain ⟨u, q1, q2⟩ := k2 j y hj
            refine ⟨u, ?_, q2⟩
            have hlt' : j < (c.args.map a.eval).size := by simp; rw [← Array.length_toList, ← k1]; exact hlt
            rw [Array.getElem?_append_left hlt']
            rw [← Array.getElem?_toList]; simpa using q1
          · rw [List.getElem?_append_right hge] at hj
            simp only [List.getElem?_map, Option.map_eq_some_iff] at hj
            obtain ⟨cp, hcp, rfl⟩ := hj
            obtain ⟨b, b1, b2⟩ := hcap _ cp hcp
            refine ⟨_, ?_, ⟨b, b1, rfl⟩⟩
            have hsz : (c.args.map a.eval).size = vs.length := by simp [k1]
            rw [Array.getElem?_append_right (by rw [hsz]; exact hge), hsz]
            exact b2
        · rintro e w' ⟨res, r, σ', R', X', rfl, hK, rfl, hE, hH, hI', hr⟩
          exact hc res r σ' R' X' hK hE hH hI' hr
      · rename_i f i0 off vs hx hvs
        intro Kc Q hc
        obtain ⟨b, hb, hfv⟩ := opA_sound hI he hx
        obtain ⟨k1, k2⟩ := opAll_sound hI he _ _ hvs
        obtain ⟨hcall, hcalls⟩ := h
        have hrun : (execOp a.eval o).run P X.w = .ok (.enter f (#[.pointer (some ⟨b, off, none⟩)] ++ c.args.map a.eval)) X.w := by
          simp only [execOp, hop, resolve, hcal]
          simp [hfv, Deferred.ofValue, invoke, run_callFunc hcall]
        unfold Oper.wp
        rw [hrun]
        refine (hcalls X _ hI (by simp [k1]; omega) (fun j y hj => ?_)).mono ?_
        · cases j with
          | zero =>
            simp only [List.getElem?_cons_zero, Option.some.injEq] at hj
            subst hj
            exact ⟨.pointer (some ⟨b, off, none⟩), by rw [Array.getElem?_append_left (Nat.zero_lt_one)]; rfl, b, hb, rfl⟩
          | succ j =>
            simp only [List.getElem?_cons_succ] at hj
            obtain ⟨u, q1, q2⟩ := k2 j y hj
            refine ⟨u, ?_, q2⟩
            rw [Array.getElem?_append_right (by simp)]
            rw [← Array.getElem?_toList]; simpa using q1
        · rintro e w' ⟨res, r, σ', R', X', rfl, hK, rfl, hE, hH, hI', hr⟩
          exact hc res r σ' R' X' hK hE hH hI' hr
      · cases h
    · rename_i hcal
      split at h
      · rename_i s x t t' hargs hts
        obtain ⟨rfl, happ⟩ := h
        intro Kc Q hc
        obtain ⟨sO, xO, hl, h1', h2'⟩ : ∃ sO xO, c.args.toList = [sO, xO] ∧ opA G env sO = some s ∧ opA G env xO = some x := by
          cases hl : c.args.toList with
          | nil => rw [hl] at hargs; simp at hargs
          | cons p l =>
            cases l with
            | nil => rw [hl] at hargs; simp at hargs
            | cons q l =>
              cases l with
              | nil =>
                rw [hl] at hargs
                simp only [List.map_cons, List.map_nil, List.cons.injEq, and_true] at hargs
                exact ⟨p, q, rfl, hargs.1, hargs.2⟩
              | cons r l => rw [hl] at hargs; simp at hargs
        have hax := toList_two hl
        have htx := toList_two hts
        obtain ⟨v, r, w', X', R', hK, h1, h2, h3, h4, h5, h6⟩ := run_append_ok (P := P) (He := He) (ty := o.type) hI happ (opA_sound hI he h1') (opA_sound hI he h2')
        have hrun : (execOp a.eval o).run P X.w = .ok (.value r) w' := by
            simp only [execOp, hop, resolve, hcal, hax, htx, Sem.run_bind, Sem.run_pure, Result.andThen_ok, invoke, builtin]
            rw [show Array.map a.eval #[sO, xO] = #[a.eval sO, a.eval xO] from by simp, h1]
            rfl
        unfold Oper.wp
        rw [hrun, ← h2]
        exact hc v r σ R' X' hK h3 h4 h5 h6
      · cases h
    · exact pure' hop h
end
end Go.Abs
