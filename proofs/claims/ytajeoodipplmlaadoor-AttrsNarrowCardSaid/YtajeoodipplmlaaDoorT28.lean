/-
  WHAT WAS PUT IS READ, 3: one attribute's step.
-/
import Derived.Test.YtajeoodipplmlaaDoorT26
set_option linter.all false
namespace Go.Abs
open Go Go.Proofs
theorem readL_mono : ∀ {m m' : Nat} {g g' : Rdg} {b : List Int}, readL m g b = some g' → m ≤ m' → readL m' g b = some g'
  | 0, m', g, g', b, h, _ => by cases h
  | m + 1, 0, g, g', b, h, hm => by omega
  | m + 1, m' + 1, g, g', b, h, hm => by
    simp only [readL] at h ⊢
    split
    · rename_i hb; rw [if_pos hb] at h; exact h
    · rename_i hb
      rw [if_neg hb] at h
      split
      · rename_i hs; rw [if_pos hs] at h; exact readL_mono h (by omega)
      · rename_i hs; rw [if_neg hs] at h; cases h
def Reads (g : Rdg) (b : List Int) (g' : Rdg) : Prop := ∃ m, m ≤ b.length + 1 ∧ readL m g b = some g'
theorem Reads.nil (g : Rdg) : Reads g [] g := ⟨1, by simp, by simp [readL]⟩
theorem Reads.run {g g' : Rdg} {b : List Int} (h : Reads g b g') : readL (b.length + 1) g b = some g' := by
  obtain ⟨m, h1, h2⟩ := h
  exact readL_mono h2 h1
def oneOf (f k : Int) (v : List Int) : One := ⟨flg f v, k, attrS f k v, v⟩
theorem attrS_pos (f k : Int) (v : List Int) : 0 < (attrS f k v).length := by
  rw [attrS_len]; unfold hdS; split <;> (simp; omega)
theorem Reads.attr {g g' : Rdg} {f k : Int} {v rest : List Int} (hf : flagOk f) (hk : 0 ≤ k ∧ k < 256) (hl : (v.length : Int) < 65536) (hnk : ¬ k ∈ g.kinds) (hc : g.a.comms.length + v.length ≤ 1000000) (hkn : knownS k = true)
    (hform : (formX g.wide (oneOf f k v)).code = 0) (hknf : (knF (addK g k) (oneOf f k v)).code = 0) (h : Reads (knG (addK g k) (oneOf f k v)) rest g') : Reads g (attrS f k v ++ rest) g' := by
  obtain ⟨m, hm, hr⟩ := h
  obtain ⟨h1, h2, h3⟩ := sp_attr v rest hf hk hl
  have hp := attrS_pos f k v
  have hne : ¬ attrS f k v ++ rest = [] := by
    intro hh
    have := congrArg List.length hh
    simp only [List.length_append, List.length_nil] at this; omega
  refine ⟨m + 1, by simp only [List.length_append]; omega, ?_⟩
  have e2 : splitO (attrS f k v ++ rest) = oneOf f k v := h2
  have hok : stepOk g (attrS f k v ++ rest) = true := by
    simp only [stepOk, h1, e2, oneOf, hkn, if_true, Bool.and_eq_true, Bool.not_eq_true', decide_eq_true_eq, decide_eq_false_iff_not]
    exact ⟨⟨⟨trivial, hnk⟩, hc⟩, hform, hknf⟩
  have hst : stepR g (attrS f k v ++ rest) = knG (addK g k) (oneOf f k v) := by
    simp only [stepR, e2, oneOf, hkn, if_true]
  simp only [readL, if_neg hne, if_pos hok, hst, h3]
  exact hr
theorem Reads.raw {g g' : Rdg} {k : Int} {v rest : List Int} (hk : 0 ≤ k ∧ k < 256) (hl : v.length ≤ 64) (hnk : ¬ k ∈ g.kinds) (hc : g.a.comms.length + v.length ≤ 1000000) (hkn : knownS k = false) (hasc : ∀ y ∈ g.a.raws, y.typ ≤ k) (h8 : g.a.raws.length < 8)
    (h : Reads { g with a := { g.a with raws := g.a.raws ++ [⟨224, k, v⟩] }, kinds := g.kinds ++ [k] } rest g') : Reads g (attrS 224 k v ++ rest) g' := by
  obtain ⟨m, hm, hr⟩ := h
  obtain ⟨h1, h2, h3⟩ := sp_attr (f := 224) v rest (.inr (.inr (.inr rfl))) hk (by omega)
  have hp := attrS_pos 224 k v
  have hne : ¬ attrS 224 k v ++ rest = [] := by
    intro hh
    have := congrArg List.length hh
    simp only [List.length_append, List.length_nil] at this; omega
  refine ⟨m + 1, by simp only [List.length_append]; omega, ?_⟩
  have hfl : flg 224 v = 224 := if_neg (by omega)
  have e2 : splitO (attrS 224 k v ++ rest) = ⟨224, k, attrS 224 k v, v⟩ := by rw [h2, hfl]
  have b1 : ¬ bits .and .i64 224 128 = 0 := by decide
  have b2 : ¬ bits .and .i64 224 64 = 0 := by decide
  have b3 : unk2 (addK g k) ⟨224, k, attrS 224 k v, v⟩ = false := by
    unfold unk2 addK; rw [decide_eq_false (show ¬ 64 < (v.length : Int) by omega), decide_eq_false (show ¬ 8 ≤ (g.a.raws.length : Int) by omega)]; rfl
  have hF : unkF (addK g k) ⟨224, k, attrS 224 k v, v⟩ = noF := by
    simp only [unkF, if_neg b1, if_neg b2, b3]; rfl
  have hG : unkG (addK g k) ⟨224, k, attrS 224 k v, v⟩ = { g with a := { g.a with raws := g.a.raws ++ [⟨224, k, v⟩] }, kinds := g.kinds ++ [k] } := by
    rw [unkG, if_neg (fun hh => hh.elim b1 fun hh => hh.elim b2 fun hh => by rw [b3] at hh; cases hh)]; rfl
  have hok : stepOk g (attrS 224 k v ++ rest) = true := by
    simp only [stepOk, h1, e2, hkn, Bool.false_eq_true, if_false, hF, Bool.and_eq_true, Bool.not_eq_true', decide_eq_true_eq, decide_eq_false_iff_not]
    exact ⟨⟨⟨trivial, hnk⟩, hc⟩, hasc, rfl⟩
  have hst : stepR g (attrS 224 k v ++ rest) = { g with a := { g.a with raws := g.a.raws ++ [⟨224, k, v⟩] }, kinds := g.kinds ++ [k] } := by
    simp only [stepR, e2, hkn, Bool.false_eq_true, if_false]; exact hG
  simp only [readL, if_neg hne, if_pos hok, hst, h3]
  exact hr
/-- The form of each kind is right. -/
theorem form_fine {w : Bool} {f k : Int} {v : List Int} (hf : flagOk f) (hfk : flagsS k = f) (hf3 : ¬ f = 224) (hb : badS w (oneOf f k v) (lkL k) (lkM k) = false) : (formX w (oneOf f k v)).code = 0 := by
  have h0 : form0 (oneOf f k v) f = false := by
    unfold form0 oneOf flg
    simp only
    rcases hf with rfl | rfl | rfl | rfl
    · split <;> decide
    · split <;> decide
    · split <;> decide
    · exact absurd rfl hf3
  show (formF w (oneOf f k v) (flagsS k) (lkL k) (lkM k)).code = 0
  rw [hfk, formF, h0, hb]; rfl
/-- What kinds there were: known ones up to one, others below one. -/
def Kinv (i t : Int) (ks : List Int) : Prop := ∀ x ∈ ks, (knownS x = true → x ≤ i) ∧ (knownS x = false → x < t)
theorem Kinv.mono {i j t : Int} {ks : List Int} (h : Kinv i t ks) (hij : i ≤ j) : Kinv j t ks := fun x hx => ⟨fun hk => Int.le_trans ((h x hx).1 hk) hij, (h x hx).2⟩
theorem Kinv.not {i t k : Int} {ks : List Int} (h : Kinv i t ks) (hk : knownS k = true) (hik : i < k) : ¬ k ∈ ks := fun hm => by have := (h k hm).1 hk; omega
theorem Kinv.add {i t k : Int} {ks : List Int} (h : Kinv i t ks) (hk : knownS k = true) (hik : i ≤ k) : Kinv k t (ks ++ [k]) := by
  intro x hx
  rcases List.mem_append.1 hx with hx | hx
  · exact h.mono hik x hx
  · obtain rfl := List.mem_singleton.1 hx
    exact ⟨fun _ => Int.le_refl _, fun hh => by rw [hk] at hh; cases hh⟩
theorem Kinv.notR {i t k : Int} {ks : List Int} (h : Kinv i t ks) (hk : knownS k = false) (hik : t ≤ k) : ¬ k ∈ ks := fun hm => by have := (h k hm).2 hk; omega
theorem Kinv.addR {i t k : Int} {ks : List Int} (h : Kinv i t ks) (hk : knownS k = false) (hik : t ≤ k) : Kinv i (k + 1) (ks ++ [k]) := by
  intro x hx
  rcases List.mem_append.1 hx with hx | hx
  · exact ⟨(h x hx).1, fun hh => by have := (h x hx).2 hh; omega⟩
  · obtain rfl := List.mem_singleton.1 hx
    exact ⟨fun hh => (by rw [hk] at hh; cases hh), fun _ => by omega⟩
def Asc (t : Int) : List Raw → Prop
  | [] => True
  | r :: l => t ≤ r.typ ∧ rawOk r = true ∧ Asc (r.typ + 1) l
theorem asc_of_at : ∀ (l : List Raw) (t : Int), (∀ k (h : k < l.length), rawOk l[k] = true ∧ (0 < k → (l[k - 1]'(by omega)).typ < l[k].typ)) → (∀ h : 0 < l.length, t ≤ (l[0]'h).typ) → Asc t l
  | [], _, _, _ => trivial
  | r :: l, t, h, h0 => by
    refine ⟨h0 (by simp), (h 0 (by simp)).1, asc_of_at l (r.typ + 1) (fun k hk => ?_) (fun hl => ?_)⟩
    · have h1 := h (k + 1) (by simpa using hk)
      refine ⟨h1.1, fun hk0 => ?_⟩
      have h2 := h1.2 (by omega)
      obtain ⟨j, rfl⟩ : ∃ j, k = j + 1 := ⟨k - 1, by omega⟩
      exact h2
    · have h1 := (h 1 (by simpa using hl)).2 (by omega)
      have h2 : r.typ < (l[0]'hl).typ := h1
      omega
theorem rawOk_pos {r : Raw} (h : rawOk r = true) : 0 ≤ r.typ ∧ r.typ < 256 ∧ knownS r.typ = false ∧ r.flags = 224 ∧ r.data.length ≤ 64 := by
  simp only [rawOk, Bool.and_eq_true, Bool.not_eq_true', decide_eq_true_eq, decide_eq_false_iff_not] at h
  obtain ⟨⟨⟨⟨h1, h2⟩, h3⟩, h4⟩, h5⟩ := h
  exact ⟨by omega, by omega, h3, h4, h5⟩
theorem asc_raws {l : List Raw} (h : rawsS l = true) : Asc 0 l ∧ l.length ≤ 8 := by
  simp only [rawsS, rawsOk, Bool.and_eq_true, decide_eq_true_eq, List.all_eq_true, List.mem_range] at h
  have key : ∀ k (hk : k < l.length), rawOk l[k] = true ∧ (0 < k → (l[k - 1]'(by omega)).typ < l[k].typ) := by
    intro k hk
    have h1 := h.1 k hk
    rw [rawAt_get hk] at h1
    simp only [Bool.and_eq_true, Bool.or_eq_true, decide_eq_true_eq] at h1
    exact ⟨h1.1, fun h0 => h1.2.elim (fun h => by omega) id⟩
  exact ⟨asc_of_at l 0 key fun hl => (rawOk_pos (key 0 hl).1).1, h.2⟩
def withR (g : Rdg) (l : List Raw) (ks : List Int) : Rdg := { g with a := { g.a with raws := l }, kinds := ks }
theorem raws_read {F : Rdg → Prop} (rest : List Int) (i : Int) : ∀ (l pre : List Raw) (g : Rdg) (t : Int) (ks : List Int), Asc t l → Kinv i t ks → 2 ∈ ks → (∀ y ∈ pre, y.typ < t) → pre.length + l.length ≤ 8 → g.a.comms.length ≤ 1000 →
    (∀ t ks, Kinv i t ks → 2 ∈ ks → ∃ g', F g' ∧ Reads (withR g (pre ++ l) ks) rest g') → ∃ g', F g' ∧ Reads (withR g pre ks) (rawP l ++ rest) g'
  | [], pre, g, t, ks, _, hK, h2, _, _, _, hend => by
    have := hend t ks hK h2
    simpa [rawP] using this
  | r :: l, pre, g, t, ks, hA, hK, h2, hpre, hlen, hc, hend => by
    obtain ⟨ht, hok, hA⟩ := hA
    obtain ⟨k0, k1, k2, k3, k4⟩ := rawOk_pos hok
    have hr : r = ⟨224, r.typ, r.data⟩ := by cases r; simp only at k3; subst k3; rfl
    simp only [List.length_cons] at hlen
    obtain ⟨g', hF, hR⟩ := raws_read rest i l (pre ++ [r]) g (r.typ + 1) (ks ++ [r.typ]) hA (hK.addR k2 ht) (List.mem_append_left _ h2)
      (fun y hy => by
        rcases List.mem_append.1 hy with hy | hy
        · have := hpre y hy; omega
        · obtain rfl := List.mem_singleton.1 hy; omega) (by simp; omega) hc (fun t ks h1 h2 => by
        have := hend t ks h1 h2
        simpa using this)
    refine ⟨g', hF, ?_⟩
    have e : rawP (r :: l) ++ rest = attrS 224 r.typ r.data ++ (rawP l ++ rest) := by simp [rawP]
    rw [e]
    refine Reads.raw (g := withR g pre ks) ⟨k0, k1⟩ k4 (hK.notR k2 ht) (by show g.a.comms.length + _ ≤ _; omega) k2 (fun y hy => by have := hpre y hy; omega) (by show pre.length < 8; omega) ?_
    rw [← hr]
    exact hR
theorem Reads.optA {g : Rdg} {F : Rdg → Prop} {f k : Int} {v rest : List Int} {c : Bool} (hf : flagOk f) (hk : 0 ≤ k ∧ k < 256) (hnk : ¬ k ∈ g.kinds) (hkn : knownS k = true)
    (hs : c = true → (v.length : Int) < 65536 ∧ g.a.comms.length + v.length ≤ 1000000 ∧ (formX g.wide (oneOf f k v)).code = 0 ∧ (knF (addK g k) (oneOf f k v)).code = 0 ∧ ∃ g', F g' ∧ Reads (knG (addK g k) (oneOf f k v)) rest g')
    (h0 : c = false → ∃ g', F g' ∧ Reads g rest g') : ∃ g', F g' ∧ Reads g (opt c (attrS f k v) ++ rest) g' := by
  cases c with
  | false => exact h0 rfl
  | true =>
    obtain ⟨h1, h2, h3, h4, g', h5, h6⟩ := hs rfl
    exact ⟨g', h5, Reads.attr hf hk h1 hnk h2 hkn h3 h4 h6⟩
end Go.Abs
