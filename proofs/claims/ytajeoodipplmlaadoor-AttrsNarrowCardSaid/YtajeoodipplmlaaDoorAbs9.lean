/-
  A ROW THAT GROWS: 'append', and a slice literal.
-/
import Derived.Test.YtajeoodipplmlaaDoorAbs8
import Derived.Laws.AppendOwn
import Derived.Great.BuildSlice
set_option linter.all false
namespace Go.Abs
open Go Go.RowKit

theorem zeroOk_spec {P : Program} {t : TypeId} (h : zeroOk P t = true) : ∃ i z, P.info? t = some i ∧ i.zero = some z ∧ z.cells.size = szT P t ∧ i.size = szT P t := by
  unfold zeroOk at h
  cases hi : P.info? t with
  | none => simp [hi] at h
  | some i =>
    cases hz : i.zero with
    | none => simp [hi, hz] at h
    | some z => simp [hi, hz] at h; exact ⟨i, z, rfl, hz, h, by simp [szT, hi]⟩

section
variable {P : Program} {G : Nat → Option (List LV)} {H : Nat → Bool} {X : Ctx} {σ : List Blk} {R : RowsA} {n : Nat} {env : Env} {a : Act}

/-- The cells of a slice's elements, as a list. -/
theorem slice_cells {own : Own} {sz : Nat} {e : List (List LV)} {r : Value} (h : RepL X (.slice own sz e) r) (hsz : 0 < sz) :
    ∃ ad cap, ∃ vf : Nat → Nat → Value, ∃ us : List Value, r = .slice ad e.length cap ∧ e.length ≤ cap ∧ cap ≤ maxLen ∧ us.length = e.length * sz ∧ (∀ i j, i < e.length → j < sz → us[i * sz + j]? = some (vf i j)) ∧
      (∀ i j c x, e[i]? = some c → c[j]? = some x → Rep X.Rd x (vf i j)) ∧ (∀ c ∈ e, c.length = sz) ∧
      ∀ w : World, w.heap = X.w.heap → (Builtin.firstCells sz e.length r).run P w = .ok us.toArray w := by
  obtain ⟨ad, cap, b, o, vf, rfl, h1, h2, h3, h4, h5, h6⟩ := slice_form (rep_slice h)
  refine ⟨ad, cap, vf, (List.range (e.length * sz)).map fun k => vf (k / sz) (k % sz), rfl, h1, h2, by simp, fun i j hi hj => ?_, h6, h3, fun w hw => ?_⟩
  · have hlt : i * sz + j < e.length * sz := by
      calc i * sz + j < i * sz + sz := by omega
        _ = (i + 1) * sz := by rw [Nat.add_mul, Nat.one_mul]
        _ ≤ e.length * sz := Nat.mul_le_mul_right _ hi
    simp only [List.getElem?_map, List.getElem?_range hlt, Option.map_some]
    rw [show (i * sz + j) / sz = i by rw [Nat.mul_comm, Nat.mul_add_div hsz, Nat.div_eq_of_lt hj, Nat.add_zero], show (i * sz + j) % sz = j by rw [Nat.mul_comm, Nat.mul_add_mod, Nat.mod_eq_of_lt hj]]
  · cases ad with
    | none =>
      rcases h4 with rfl | h4
      · simp [Builtin.firstCells]
      · cases h4
    | some ad =>
      simp only [Builtin.firstCells]
      rw [run_loadCells (P := P) w ad (e.length * sz) (fun k => vf (k / sz) (k % sz)) (fun k hk => ?_)]
      rcases h4 with rfl | h4
      · simp at hk
      · obtain rfl := Option.some.inj h4
        have hi : k / sz < e.length := Nat.div_lt_of_lt_mul (by rw [Nat.mul_comm]; exact hk)
        have := (h5 (k / sz) (k % sz) hi (Nat.mod_lt _ hsz)).1
        rw [add_lit]
        rw [Nat.mul_comm, Nat.div_add_mod] at this
        simpa [World.cell?, hw] using this

/-- What a row's own slice tells. -/
theorem row_rep {i sz g cap m : Nat} {q : Row} {e : List (List LV)} {cs : Array Value} {vf : Nat → Nat → Value} (hI : Inv G X σ R) (hq : X.rows[i]? = some q) (hg : q.blk = some g) (hqs : q.sz = sz) (hn : q.n = e.length) (hm : m = e.length)
    (hh : X.w.heap[g]? = some (.cells cs q.T (0, 0))) (hcap : cs.size = cap * sz) (hle : e.length ≤ cap) (hmax : cap ≤ maxLen) (hsz : ∀ c ∈ e, c.length = sz)
    (hcells : ∀ i j, i < e.length → j < sz → cs[i * sz + j]? = some (vf i j)) (hrep : ∀ i j c x, e[i]? = some c → c[j]? = some x → Rep X.Rd x (vf i j)) :
    RepL X (.slice (.row i) sz e) (.slice (some ⟨g, 0, none⟩) m cap) := by
  subst hm
  obtain ⟨hmu, _, hz, _⟩ := hI.row i q g hq hg
  refine ⟨.slice e _ cap g 0 sz vf hle hmax hsz (.inr rfl) (fun k j hk hj => ⟨?_, hmu, ?_, hz _⟩) hrep, q, hq, by omega, fun _ => .inr ⟨g, cap, cs, hg, hqs, rfl, hh, by rw [hqs]; exact hcap⟩⟩
  · rw [cell_heap hh, Nat.zero_add]; exact hcells k j hk hj
  · rintro ⟨i', r, hr, hrb, hle'⟩
    obtain rfl := hI.inj i i' q r g hq hr hg hrb
    rw [hq] at hr
    obtain rfl := Option.some.inj hr
    rw [hn, hqs] at hle'
    have : k * sz + j < e.length * sz := by
      calc k * sz + j < k * sz + sz := by omega
        _ = (k + 1) * sz := by rw [Nat.add_mul, Nat.one_mul]
        _ ≤ e.length * sz := Nat.mul_le_mul_right _ hk
    omega

theorem oneCell_of_rep {x : LV} {r : Value} (h : RepL X x r) : r.oneCell' = true := by
  cases x with
  | ptr i o => obtain ⟨b, _, rfl⟩ := h; rfl
  | eptr c o => obtain ⟨b, o', rfl, _⟩ := h; rfl
  | fn f caps => obtain ⟨rs, rfl, _⟩ := h; rfl
  | mfn f i o => obtain ⟨b, _, rfl⟩ := h; rfl
  | vsl i o s l => obtain ⟨b, cap, _, rfl, _⟩ := h; rfl
  | slice own sz e => obtain ⟨ad, cap, b, o, vf, rfl, _⟩ := slice_form (rep_slice h); rfl
  | int k n => rw [repL_int h]; rfl
  | bool b => rw [repL_bool h]; rfl
  | str l => obtain ⟨s, rfl, _⟩ := repL_str h; rfl
  | nilp => rw [repL_nilp h]; rfl

theorem run_append_none {t ty e : TypeId} {i : TypeInfo} (w : World) (ht : P.underlying t = some (.slice e)) (hi : P.info? e = some i) (sa : Option Addr) (sLen sCap : Nat) (xa : Option Addr) (c : Nat) (hle : sLen ≤ sCap)
    (hf : (Builtin.firstCells i.size 0 (.slice xa 0 c)).run P w = .ok #[] w) :
    (Builtin.append_ #[t, t] ty #[.slice sa sLen sCap, .slice xa 0 c]).run P w = .ok (.slice sa sLen sCap) w := by
  cases sa <;> simp [Builtin.append_, run_underlying ht, sizeOf, typeInfo, hi, Builtin.lenOf, hle, hf, storeCells]

theorem run_append_room' {t ty e : TypeId} {i : TypeInfo} (w : World) (ht : P.underlying t = some (.slice e)) (hi : P.info? e = some i) (g sLen sCap m : Nat) (cur : Array Value) (hg : w.heap[g]? = some (.cells cur e (0, 0)))
    (xa : Option Addr) (c : Nat) (news : List Value) (hf : (Builtin.firstCells i.size m (.slice xa m c)).run P w = .ok news.toArray w) (h1 : ∀ u ∈ news, u.oneCell' = true)
    (hroom : sLen + m ≤ sCap) (hfit : sLen * i.size + news.length ≤ cur.size) :
    (Builtin.append_ #[t, t] ty #[.slice (some ⟨g, 0, none⟩) sLen sCap, .slice xa m c]).run P w =
      .ok (.slice (some ⟨g, 0, none⟩) (sLen + m) sCap) (w.setRow g (cur.toList.take (sLen * i.size) ++ news ++ cur.toList.drop (sLen * i.size + news.length)).toArray) := by
  have hst := run_storeCells_at P g (sLen * i.size) e news 0 cur w hg (by simpa using hfit) h1
  simp only [Nat.add_zero] at hst
  simp [Builtin.append_, run_underlying ht, sizeOf, typeInfo, hi, Builtin.lenOf, hroom, hf, Addr.add_lit, hst]

theorem run_append_grow' {t ty e : TypeId} {i : TypeInfo} {z : Value} (w : World) (ht : P.underlying t = some (.slice e)) (hi : P.info? e = some i) (hz : i.zero = some z) (sa : Option Addr) (sLen sCap m : Nat)
    (xa : Option Addr) (c : Nat) (olds news : List Value) (hfo : (Builtin.firstCells i.size sLen (.slice sa sLen sCap)).run P w.drew = .ok olds.toArray w.drew) (hf : (Builtin.firstCells i.size m (.slice xa m c)).run P w.drew = .ok news.toArray w.drew)
    (hg : sCap < sLen + m) (h63 : ((sLen + m : Nat) : Int) ≤ 9223372036854775807) (hfit : Builtin.nextslicecap (sLen + m) sCap * i.bytes ≤ 281474976710656) :
    (Builtin.append_ #[t, t] ty #[.slice sa sLen sCap, .slice xa m c]).run P w =
      .ok (.slice (some ⟨w.heap.size, 0, none⟩) (sLen + m) (grownCap w (sLen + m) sCap e))
        (w.drew.alloc (.cells (olds.toArray ++ news.toArray ++ Builtin.zeroCells z.cells (grownCap w (sLen + m) sCap e - (sLen + m))) e)) := by
  have hn : ¬ (sLen + m ≤ sCap) := by omega
  have h63' : ¬ (9223372036854775807 < ((sLen : Int) + (m : Int))) := by omega
  have h48' : ¬ (281474976710656 < Builtin.nextslicecap (sLen + m) sCap * i.bytes) := by omega
  simp [Builtin.append_, run_underlying ht, sizeOf, typeInfo, zeroValue, hi, hz, Builtin.lenOf, hn, h63', h48', Question.forced, hf, hfo, newRow, grownCap]
  congr 2
  apply Array.ext'
  simp [List.append_assoc]

theorem cat_cells {sz : Nat} {e e' : List (List LV)} {vf vf' : Nat → Nat → Value} {olds news tl : List Value} (h1 : olds.length = e.length * sz)
    (ho : ∀ i j, i < e.length → j < sz → olds[i * sz + j]? = some (vf i j)) (hn : ∀ i j, i < e'.length → j < sz → news[i * sz + j]? = some (vf' i j)) :
    ∀ i j, i < (e ++ e').length → j < sz → (olds ++ news ++ tl)[i * sz + j]? = some (if i < e.length then vf i j else vf' (i - e.length) j) := by
  intro i j hi hj
  by_cases hlt : i < e.length
  · have := ho i j hlt hj
    have hl := (List.getElem?_eq_some_iff.1 this).1
    rw [if_pos hlt, List.append_assoc, List.getElem?_append_left hl, this]
  · have hi' : i - e.length < e'.length := by simp at hi; omega
    have := hn (i - e.length) j hi' hj
    have hl := (List.getElem?_eq_some_iff.1 this).1
    have hsub : i * sz + j - olds.length = (i - e.length) * sz + j := by
      rw [h1, Nat.sub_mul]
      have : e.length * sz ≤ i * sz := Nat.mul_le_mul_right _ (by omega)
      omega
    have hge : olds.length ≤ i * sz + j := by
      rw [h1]
      have : e.length * sz ≤ i * sz := Nat.mul_le_mul_right _ (by omega)
      omega
    rw [if_neg hlt, List.append_assoc, List.getElem?_append_right hge, hsub, List.getElem?_append_left hl, this]

theorem cat_rep {Rd : Nat → Nat → Value → Prop} {e e' : List (List LV)} {vf vf' : Nat → Nat → Value} (ho : ∀ i j c x, e[i]? = some c → c[j]? = some x → Rep Rd x (vf i j)) (hn : ∀ i j c x, e'[i]? = some c → c[j]? = some x → Rep Rd x (vf' i j)) :
    ∀ i j c x, (e ++ e')[i]? = some c → c[j]? = some x → Rep Rd x (if i < e.length then vf i j else vf' (i - e.length) j) := by
  intro i j c x hc hx
  by_cases hlt : i < e.length
  · rw [List.getElem?_append_left hlt] at hc
    rw [if_pos hlt]; exact ho i j c x hc hx
  · rw [List.getElem?_append_right (by omega)] at hc
    rw [if_neg hlt]; exact hn _ j c x hc hx

theorem news_one {e : List (List LV)} {sz : Nat} {us : List Value} {vf : Nat → Nat → Value} (hsz : 0 < sz) (hl : us.length = e.length * sz) (hu : ∀ i j, i < e.length → j < sz → us[i * sz + j]? = some (vf i j))
    (hs : ∀ c ∈ e, c.length = sz) (hr : ∀ i j c x, e[i]? = some c → c[j]? = some x → Rep X.Rd x (vf i j)) : ∀ u ∈ us, u.oneCell' = true := by
  intro u hu'
  obtain ⟨k, hk⟩ := List.mem_iff_getElem?.1 hu'
  have hlt := (List.getElem?_eq_some_iff.1 hk).1
  rw [hl] at hlt
  have hi : k / sz < e.length := Nat.div_lt_of_lt_mul (by rw [Nat.mul_comm]; exact hlt)
  have hj : k % sz < sz := Nat.mod_lt _ hsz
  have := hu (k / sz) (k % sz) hi hj
  rw [Nat.mul_comm, Nat.div_add_mod, hk] at this
  obtain rfl := Option.some.inj this
  have hlen := hs e[k / sz] (List.getElem_mem hi)
  exact oneCell_of_rep (repL_of_rep (hr (k / sz) (k % sz) _ _ (List.getElem?_eq_getElem hi) (List.getElem?_eq_getElem (by omega))))

/-- 'append' to a row. -/
theorem append_row {t : TypeId} {ty : TypeId} {et i sz sz' : Nat} {e e' : List (List LV)} {own : Own} {s x : Value} (hI : Inv G X σ R) (het : elemT P t = some et) (hzo : zeroOk P et = true) (hR : R[i]? = some (et, e.length)) (hsz : szT P et = sz)
    (hsz' : sz' = sz ∨ e' = []) (hpos : 0 < sz) (hbytes : (e.length + e'.length) * bytesT P et ≤ maxBytes) (hlen : e.length + e'.length ≤ maxLen) (hs : RepL X (.slice (.row i) sz e) s) (hx : RepL X (.slice own sz' e') x) :
    ∃ r w' X', (Builtin.append_ #[t, t] ty #[s, x]).run P X.w = .ok r w' ∧ X'.w = w' ∧ X'.mu = X.mu ∧ Evo X X' ∧ (∀ b ∈ X.mu, w'.heap[b]? = X.w.heap[b]?) ∧ Inv G X' σ (R.set i (et, e.length + e'.length)) ∧ RepL X' (.slice (.row i) sz (e ++ e')) r := by
  obtain ⟨ii, z, hi, hz, hzs, his⟩ := zeroOk_spec hzo
  have hby : ii.bytes = bytesT P et := by simp [bytesT, hi]
  have ht := elemT_spec het
  have hxs : RepL X (.slice .shared sz e') x := by
    rcases hsz' with rfl | rfl
    · exact rep_slice hx
    · obtain ⟨ad, cap, b, o, vf, rfl, h1, h2, h3, h4, h5, h6⟩ := slice_form (rep_slice hx)
      exact Rep.slice [] ad cap 0 0 sz (fun _ _ => Go.undef) h1 h2 (by simp) (.inl rfl) (by simp) (by simp)
  obtain ⟨xa, xc, vf', news, rfl, x1, x2, x3, x4, x5, x6, x7⟩ := slice_cells (P := P) hxs hpos
  obtain ⟨sa, sc, vf, olds, rfl, s1, s2, s3, s4, s5, s6, s7⟩ := slice_cells (P := P) hs hpos
  obtain ⟨hsr, q, hq, hqn, hcond⟩ := hs
  have hqT : q.T = et ∧ q.n = e.length := by
    have := hI.rowsR
    rw [← this] at hR
    simp only [List.getElem?_map, hq, Option.map_some, Option.some.injEq, Prod.mk.injEq] at hR
    exact hR
  obtain ⟨hT, hn⟩ := hqT
  subst hT
  by_cases hm : e'.length = 0
  · -- nothing to append
    obtain rfl := List.eq_nil_of_length_eq_zero hm
    have hnews : news = [] := List.eq_nil_of_length_eq_zero (by simpa using x3)
    subst hnews
    refine ⟨_, X.w, X, run_append_none X.w ht hi sa e.length sc xa xc s1 (by rw [his, hsz]; exact x7 X.w rfl), rfl, rfl, Evo.refl hI, fun _ _ => rfl, ?_, ?_⟩
    · have : R.set i (q.T, e.length + ([] : List (List LV)).length) = R := by
        obtain ⟨hl, he⟩ := List.getElem?_eq_some_iff.1 hR
        simp only [List.length_nil, Nat.add_zero]
        rw [← he]
        exact List.set_getElem_self hl
      rw [this]; exact hI
    · simp only [List.append_nil]
      exact ⟨hsr, q, hq, hqn, hcond⟩
  · by_cases hroom : e.length + e'.length ≤ sc
    · -- in place
      rcases hcond hn.symm with ⟨hnone, ad, had⟩ | ⟨g, cap, cs, hg, hqs, hval, hh, hcs⟩
      · injection had with h1 h2 h3
        omega
      · injection hval with h1 h2 h3
        subst h1 h3
        obtain ⟨hbmu, _, hbz, cs0, cap0, hc0, hcs0, _, hcm⟩ := hI.row i q g hq hg
        rw [hh] at hc0
        injection hc0 with hc0; injection hc0 with hc0; subst hc0
        rw [hqs] at hcs hcs0
        have hfit : e.length * ii.size + news.length ≤ cs.size := by
          rw [his, hsz, x3, hcs, ← Nat.add_mul]; exact Nat.mul_le_mul_right _ hroom
        have hrun := run_append_room' (P := P) (ty := ty) X.w ht hi g e.length sc e'.length cs hh xa xc news (by rw [his, hsz]; exact x7 X.w rfl) (news_one hpos x3 x4 x6 x5) hroom hfit
        rw [his, hsz] at hrun hfit
        have holds : cs.toList.take (e.length * sz) = olds := by
          apply List.ext_getElem?
          intro k
          by_cases hk : k < e.length * sz
          · have hik : k / sz < e.length := Nat.div_lt_of_lt_mul (by rw [Nat.mul_comm]; exact hk)
            have hjk : k % sz < sz := Nat.mod_lt _ hpos
            have h4 := s4 (k / sz) (k % sz) hik hjk
            rw [Nat.mul_comm, Nat.div_add_mod] at h4
            rw [h4, List.getElem?_take, if_pos hk]
            obtain ⟨ad', cap', b', o', vf'', hval', _, _, _, h44, h55, _⟩ := slice_form hsr
            have hk7 := s7 X.w rfl
            have hl := run_loadCells (P := P) X.w ⟨g, 0, none⟩ (e.length * sz) (fun k => cs.getD k Go.undef) (fun k' hk' => by
              rw [add_lit, Nat.zero_add, cell_heap hh]
              have : k' < cs.size := by omega
              simp [this])
            simp only [Builtin.firstCells] at hk7
            rw [hl] at hk7
            simp only [Result.ok.injEq, and_true] at hk7
            have h8 : olds[k]? = some (cs.getD k Go.undef) := by
              have : olds = (List.range (e.length * sz)).map fun k => cs.getD k Go.undef := by
                have := congrArg Array.toList hk7
                simpa using this.symm
              rw [this]; simp [hk]
            rw [h4] at h8
            rw [h8]
            have : k < cs.size := by omega
            simp [this]
          · rw [List.getElem?_eq_none (by simp; omega), List.getElem?_eq_none (by omega)]
        obtain ⟨hE, hI'⟩ := hI.fillRow i g (e.length + e'.length) sc q (cs.toList.take (e.length * sz) ++ news ++ cs.toList.drop (e.length * sz + news.length)).toArray cs hq hg hh
          (by simp [x3]; omega) (by rw [hqs]; exact hcs) s2 (by omega) hroom (fun o ho => by
            rw [hn, hqs] at ho
            rw [← Array.getElem?_toList, List.append_assoc, List.getElem?_append_left (by simp; omega), List.getElem?_take, if_pos ho, Array.getElem?_toList])
        refine ⟨_, _, _, hrun, ?_, ?_, hE, fun b hb => setRow_other _ _ _ _ (fun h' => hbmu (h' ▸ hb)), hI', ?_⟩
        · rfl
        · rfl
        have hll : (e ++ e').length = e.length + e'.length := by simp
        refine row_rep (q := { q with n := e.length + e'.length }) (vf := fun i j => if i < e.length then vf i j else vf' (i - e.length) j) hI' (List.getElem?_set_self (List.getElem?_eq_some_iff.1 hq).1) hg hqs hll.symm hll.symm
          (setRow_heap X.w g cs _ q.T (0, 0) hh) (by simp [x3]; omega) (by rw [hll]; exact hroom) s2 (fun c hc => (List.mem_append.1 hc).elim (s6 c) (x6 c)) (fun k j hk hj => ?_) (cat_rep (fun i j c x h1 h2 => hE.rep hI (s5 i j c x h1 h2)) (fun i j c x h1 h2 => hE.rep hI (x5 i j c x h1 h2)))
        rw [← Array.getElem?_toList, holds]
        exact cat_cells s3 s4 x4 k j hk hj
    · -- in a new block
      have hrun := run_append_grow' (P := P) (ty := ty) (z := z) X.w ht hi hz sa e.length sc e'.length xa xc olds news (by rw [his, hsz]; exact s7 _ rfl) (by rw [his, hsz]; exact x7 _ rfl) (by omega) (by simp only [maxLen] at hlen; omega)
        (growslice_fits (by omega) (by rw [hby]; exact hbytes))
      have hge := grownCap_ge X.w (e.length + e'.length) sc q.T
      have hcm : grownCap X.w (e.length + e'.length) sc q.T ≤ maxLen := grownCap_le_maxLen X.w (e.length + e'.length) sc q.T hlen
      generalize hcapd : grownCap X.w (e.length + e'.length) sc q.T = cap at hrun hge hcm
      obtain ⟨hE0, hI0⟩ := hI.drew
      obtain ⟨hE1, hI1⟩ := hI0.moveRow i (e.length + e'.length) cap sz q (olds.toArray ++ news.toArray ++ Builtin.zeroCells z.cells (cap - (e.length + e'.length))) hq hpos
        (by
          simp only [Array.size_append, List.size_toArray, size_zeroCells, hzs, hsz, s3, x3, ← Nat.add_mul]
          congr 1; omega) hcm (by omega) hge
      have hE := hE0.trans hI hE1
      refine ⟨_, _, _, hrun, ?_, ?_, hE, fun b hb => heap_alloc_old _ _ _ (hI0.muLt b hb), hI1, ?_⟩
      · rfl
      · rfl
      have hll : (e ++ e').length = e.length + e'.length := by simp
      refine row_rep (q := ⟨some X.w.drew.heap.size, sz, q.T, e.length + e'.length⟩) (cs := olds.toArray ++ news.toArray ++ Builtin.zeroCells z.cells (cap - (e.length + e'.length))) (vf := fun i j => if i < e.length then vf i j else vf' (i - e.length) j) hI1 (List.getElem?_set_self (List.getElem?_eq_some_iff.1 hq).1) rfl rfl hll.symm hll.symm
        (heap_alloc_new X.w.drew _) (by
          simp only [Array.size_append, List.size_toArray, size_zeroCells, hzs, hsz, s3, x3, ← Nat.add_mul]
          congr 1; omega) (by rw [hll]; exact hge) hcm (fun c hc => (List.mem_append.1 hc).elim (s6 c) (x6 c)) (fun k j hk hj => ?_) (cat_rep (fun i j c x h1 h2 => hE.rep hI (s5 i j c x h1 h2)) (fun i j c x h1 h2 => hE.rep hI (x5 i j c x h1 h2)))
      rw [← Array.getElem?_toList]
      simp only [Array.toList_append]
      exact cat_cells s3 s4 x4 k j hk hj
end
end Go.Abs
