/-
  WHAT WAS PUT IS READ, 5: right attributes.
-/
import Derived.Test.YtajeoodipplmlaaDoorT28
set_option linter.all false
namespace Go.Abs
open Go Go.Proofs
structure Facts (a : Attrs) : Prop where
  o0 : 0 ≤ a.origin
  o2 : a.origin ≤ 2
  path : pathRight a.path = true
  med : -1 ≤ a.med ∧ a.med ≤ 4294967295
  pref : -1 ≤ a.pref ∧ a.pref ≤ 4294967295
  aggr : a.hasAggr = false → a.aggrAS = 0 ∧ a.aggrAddr = 0
  comms : a.comms.length ≤ 32
  raws : rawsS a.raws = true
theorem facts_of {a : Attrs} (h : rightS a = true) : Facts a := by
  simp only [rightS, Bool.and_eq_true, Bool.not_eq_true', Bool.or_eq_false_iff, Bool.not_eq_false', decide_eq_true_eq, decide_eq_false_iff_not, numberS] at h
  obtain ⟨⟨⟨⟨⟨h1, h2⟩, h3⟩, h4⟩, h5⟩, h6, h7, h8⟩ := h
  refine ⟨by omega, by omega, h3, h4, h5, fun hh => ?_, h7, h8⟩
  rw [hh] at h6
  simpa using h6
theorem flat_len4 (l : List Int) : (l.flatMap put32S).length = 4 * l.length := by
  induction l with
  | nil => rfl
  | cons n l ih => simp only [List.flatMap_cons, List.length_append, ih, put32S_length, List.length_cons]; omega
theorem pathB_len (w : Bool) {l : List Seg} (h : pathRight l = true) : (pathS w l).length ≤ 300 := by
  have key : ∀ l : List Seg, ((pathS w l).length : Int) ≤ 2 * l.length + 4 * tot l := by
    intro l
    induction l with
    | nil => simp [pathS, tot]
    | cons s l ih =>
      have h1 : ∀ ns : List Int, (ns.flatMap (numS w)).length ≤ 4 * ns.length := by
        intro ns
        induction ns with
        | nil => simp
        | cons n ns ih => have := numS_len w n; simp only [List.flatMap_cons, List.length_append, List.length_cons]; omega
      have h2 := h1 s.nums
      simp only [pathS, List.flatMap_cons, segS, List.length_append, List.length_cons, List.length_nil, tot] at ih ⊢
      omega
  have h1 := key l
  simp only [pathRight, Bool.and_eq_true, decide_eq_true_eq] at h
  omega
def vAggr (w : Bool) (a : Attrs) : List Int := numS w a.aggrAS ++ put32S a.aggrAddr
def vWide (a : Attrs) : List Int := put32S a.aggrAS ++ put32S a.aggrAddr
theorem q11_parts (w : Bool) (a : Attrs) : q11 w a = opt true (attrS 64 1 [IntKind.u8.wrap a.origin]) ++ (opt true (attrS 64 2 (pathS w a.path)) ++ (opt true (attrS 64 3 (put32S a.next)) ++ (opt (decide (0 ≤ a.med)) (attrS 128 4 (put32S (a.med % 4294967296))) ++
    (opt (decide (0 ≤ a.pref)) (attrS 64 5 (put32S (a.pref % 4294967296))) ++ (opt a.atomic (attrS 64 6 []) ++ (opt a.hasAggr (attrS 192 7 (vAggr w a)) ++ (opt (decide (0 < (a.comms.length : Int))) (attrS 192 8 (a.comms.flatMap put32S)) ++
    (rawP a.raws ++ (opt (!w && bigS (flat a.path)) (attrS 192 17 (pathS true a.path)) ++ (opt (!w && decide (65535 < a.aggrAS)) (attrS 192 18 (vWide a)) ++ [])))))))))) := by
  simp only [q11, q10, q9, q8, q7, q6, q5, q4, q3, q2, q1, List.take_length, List.append_assoc, opt_true, List.append_nil, vAggr, vWide]
/-- What comes of it. -/
structure Fin (w : Bool) (a : Attrs) (g : Rdg) : Prop where
  attrs : g.a = { a with path := narP w a.path, aggrAS := nar w a.aggrAS }
  kinds : 2 ∈ g.kinds
  more : g.more = if (!w && bigS (flat a.path)) = true then a.path else []
  old : g.hasOld = a.hasAggr
  oldAS : g.oldAS = nar w a.aggrAS
  newAS : g.newAS = if (!w && decide (65535 < a.aggrAS)) = true then vWide a else []
  wide : g.wide = w
theorem knF_one {g : Rdg} {f k : Int} {v : List Int} (h1 : ¬ k = 1) (h2 : ¬ k = 2) (h3 : ¬ k = 3) (h8 : ¬ k = 8) : (knF g (oneOf f k v)).code = 0 := by
  rw [knF_0 (x := oneOf f k v) h1 h2 h3 h8]; rfl
theorem bad_8 {w : Bool} {f l m : Int} {v : List Int} (h : (v.length : Int) % 4 = 0) : badS w (oneOf f 8 v) l m = false := by
  have : (v.length : Int).tmod 4 = 0 := by rw [Int.tmod_eq_emod_of_nonneg (by omega)]; exact h
  simp [badS, oneOf, this]
theorem bad_7 {w : Bool} {f l m : Int} {v : List Int} (h : (v.length : Int) = if w = true then 8 else 6) : badS w (oneOf f 7 v) l m = false := by
  cases w <;> simp at h <;> simp [badS, oneOf, h]
theorem numS_len2 (w : Bool) (n : Int) : (numS w n).length = if w = true then 4 else 2 := by
  cases w
  · by_cases h : 65535 < n
    · have e : numS false n = put16S 23456 := by simp [numS, h]
      rw [e]; rfl
    · have e : numS false n = put16S n := by simp [numS, h]
      rw [e]; rfl
  · rfl
set_option maxHeartbeats 1000000 in
theorem put_reads (w : Bool) (a : Attrs) (hR : rightS a = true) (hT : AttrsT a) (hN : nextS a.next = true) : ∃ g', Fin w a g' ∧ Reads (rd0 w) (q11 w a) g' := by
  have F := facts_of hR
  have hpl := fun w => pathB_len w F.path
  have hc4 := flat_len4 a.comms
  have hcl := F.comms
  have f1 : flagOk 64 := .inl rfl
  have f2 : flagOk 128 := .inr (.inl rfl)
  have f3 : flagOk 192 := .inr (.inr (.inl rfl))
  rw [q11_parts]
  -- the last first
  have s11 : ∀ M, M = (if (!w && bigS (flat a.path)) = true then a.path else []) → ∀ t ks, Kinv 17 t ks → 2 ∈ ks → ∃ g', Fin w a g' ∧ Reads ⟨{ a with path := narP w a.path, aggrAS := nar w a.aggrAS }, ks, M, a.hasAggr, nar w a.aggrAS, [], w⟩ (opt (!w && decide (65535 < a.aggrAS)) (attrS 192 18 (vWide a)) ++ []) g' := by
    intro M hM t ks hK h2
    refine Reads.optA f3 (by decide) (hK.not (by decide) (by decide)) (by decide) (fun hc => ⟨by simp [vWide], by simp [vWide]; omega, form_fine f3 rfl (by decide) (by simp [badS, oneOf, lkL, lkM, vWide]), knF_one (by decide) (by decide) (by decide) (by decide), ?_⟩) fun hc => ?_
    · rw [knG_18t (g := addK _ 18) (x := oneOf 192 18 (vWide a)) rfl (by simp [oneOf, vWide])]
      exact ⟨_, ⟨rfl, List.mem_append_left _ h2, hM, rfl, rfl, by rw [if_pos hc]; rfl, rfl⟩, Reads.nil _⟩
    · exact ⟨_, ⟨rfl, h2, hM, rfl, rfl, by rw [hc]; rfl, rfl⟩, Reads.nil _⟩
  have s10 : ∀ t ks, Kinv 8 t ks → 2 ∈ ks → ∃ g', Fin w a g' ∧ Reads ⟨{ a with path := narP w a.path, aggrAS := nar w a.aggrAS }, ks, [], a.hasAggr, nar w a.aggrAS, [], w⟩ (opt (!w && bigS (flat a.path)) (attrS 192 17 (pathS true a.path)) ++ (opt (!w && decide (65535 < a.aggrAS)) (attrS 192 18 (vWide a)) ++ [])) g' := by
    intro t ks hK h2
    have hp := hpl true
    refine Reads.optA f3 (by decide) (hK.not (by decide) (by decide)) (by decide) (fun hc => ⟨by omega, by show a.comms.length + _ ≤ _; omega, form_fine f3 rfl (by decide) (by simp [badS, oneOf, lkL, lkM]; omega), knF_one (by decide) (by decide) (by decide) (by decide), ?_⟩) fun hc => ?_
    · rw [knG_17 (g := addK _ 17) (x := oneOf 192 17 (pathS true a.path)) rfl]
      have e : (if pathOk true (oneOf 192 17 (pathS true a.path)).value = true then (rdPath true (oneOf 192 17 (pathS true a.path)).value).1 else []) = a.path := by
        show (if pathOk true (pathS true a.path) = true then (rdPath true (pathS true a.path)).1 else []) = a.path
        rw [if_pos (pathOk_ok true F.path hT.path), rdPath_ok true F.path hT.path, narP_true]
      rw [e]
      exact s11 a.path (by rw [if_pos hc]) t (ks ++ [17]) (hK.add (by decide) (by decide)) (List.mem_append_left _ h2)
    · exact s11 [] (by rw [hc]; rfl) t ks (hK.mono (by decide)) h2
  have s9 : ∀ t ks, Kinv 8 t ks → 2 ∈ ks → t = 0 → ∃ g', Fin w a g' ∧ Reads ⟨{ a with path := narP w a.path, aggrAS := nar w a.aggrAS, raws := [] }, ks, [], a.hasAggr, nar w a.aggrAS, [], w⟩ (rawP a.raws ++ (opt (!w && bigS (flat a.path)) (attrS 192 17 (pathS true a.path)) ++ (opt (!w && decide (65535 < a.aggrAS)) (attrS 192 18 (vWide a)) ++ []))) g' := by
    intro t ks hK h2 ht
    obtain ⟨hA, h8⟩ := asc_raws F.raws
    subst ht
    exact raws_read _ 8 a.raws [] ⟨{ a with path := narP w a.path, aggrAS := nar w a.aggrAS, raws := [] }, ks, [], a.hasAggr, nar w a.aggrAS, [], w⟩ 0 ks hA hK h2 (by simp) (by simpa using h8) (by show a.comms.length ≤ 1000; omega) fun t ks h1 h2 => s10 t ks h1 h2
  have s8 : ∀ ks, Kinv 7 0 ks → 2 ∈ ks → ∃ g', Fin w a g' ∧ Reads ⟨{ a with path := narP w a.path, aggrAS := nar w a.aggrAS, comms := [], raws := [] }, ks, [], a.hasAggr, nar w a.aggrAS, [], w⟩ (opt (decide (0 < (a.comms.length : Int))) (attrS 192 8 (a.comms.flatMap put32S)) ++ (rawP a.raws ++ (opt (!w && bigS (flat a.path)) (attrS 192 17 (pathS true a.path)) ++ (opt (!w && decide (65535 < a.aggrAS)) (attrS 192 18 (vWide a)) ++ [])))) g' := by
    intro ks hK h2
    have hq : ¬ 32 < IntKind.i64.wrap (((a.comms.flatMap put32S).length : Int).tdiv 4) := by
      rw [Int.tdiv_eq_ediv_of_nonneg (by omega), w_i64 (by omega) (by omega)]; omega
    refine Reads.optA f3 (by decide) (hK.not (by decide) (by decide)) (by decide) (fun hc => ⟨by omega, by show 0 + _ ≤ _; omega, form_fine f3 rfl (by decide) (bad_8 (by rw [hc4]; omega)), by rw [knF_8 (x := oneOf 192 8 _) rfl, lstF, if_neg (show ¬ 32 < IntKind.i64.wrap (((oneOf 192 8 (a.comms.flatMap put32S)).value.length : Int).tdiv 4) from hq)]; rfl, ?_⟩) fun hc => ?_
    · rw [knG_8 (g := addK _ 8) (x := oneOf 192 8 (a.comms.flatMap put32S)) rfl, lstG, if_neg (show ¬ 32 < IntKind.i64.wrap (((oneOf 192 8 (a.comms.flatMap put32S)).value.length : Int).tdiv 4) from hq)]
      have e : rdU ((oneOf 192 8 (a.comms.flatMap put32S)).value.length + 1) [] ⟨(oneOf 192 8 (a.comms.flatMap put32S)).value, false⟩ = a.comms := by
        have := rdU_ok a.comms ((a.comms.flatMap put32S).length + 1) [] (by omega) hT.comms
        rw [List.nil_append] at this
        exact this
      have := s9 0 (ks ++ [8]) (hK.add (by decide) (by decide)) (List.mem_append_left _ h2) rfl
      simp only [withC, addK]
      rw [e]
      exact this
    · have h0 : a.comms = [] := by
        have := of_decide_eq_false hc
        cases hcs : a.comms with
        | nil => rfl
        | cons c cs => rw [hcs] at this; exact absurd (show (0 : Int) < ((c :: cs).length : Int) by simp only [List.length_cons]; omega) this
      have := s9 0 ks (hK.mono (by decide)) h2 rfl
      rw [h0] at this
      exact this
  have s7 : ∀ ks, Kinv 6 0 ks → 2 ∈ ks → ∃ g', Fin w a g' ∧ Reads ⟨{ a with path := narP w a.path, hasAggr := false, aggrAS := 0, aggrAddr := 0, comms := [], raws := [] }, ks, [], false, 0, [], w⟩ (opt a.hasAggr (attrS 192 7 (vAggr w a)) ++ (opt (decide (0 < (a.comms.length : Int))) (attrS 192 8 (a.comms.flatMap put32S)) ++ (rawP a.raws ++ (opt (!w && bigS (flat a.path)) (attrS 192 17 (pathS true a.path)) ++ (opt (!w && decide (65535 < a.aggrAS)) (attrS 192 18 (vWide a)) ++ []))))) g' := by
    intro ks hK h2
    have hn := one_num w hT.aggrAS (put32S a.aggrAddr)
    have hlen : ((vAggr w a).length : Int) = if w = true then 8 else 6 := by
      simp only [vAggr, List.length_append, numS_len2, put32S_length]
      cases w <;> rfl
    refine Reads.optA f3 (by decide) (hK.not (by decide) (by decide)) (by decide) (fun hc => ⟨by rw [hlen]; split <;> omega, by show 0 + _ ≤ _; have h9 : ((vAggr w a).length : Int) ≤ 8 := (by rw [hlen]; split <;> omega); omega, form_fine f3 rfl (by decide) (bad_7 hlen), knF_one (by decide) (by decide) (by decide) (by decide), ?_⟩) fun hc => ?_
    · rw [knG_7 (g := addK _ 7) (x := oneOf 192 7 (vAggr w a)) rfl]
      have := s8 (ks ++ [7]) (hK.add (by decide) (by decide)) (List.mem_append_left _ h2)
      have e1 : rdNum w ⟨vAggr w a, false⟩ = nar w a.aggrAS := hn.1
      have e2 : (rdAft w ⟨vAggr w a, false⟩).num 4 = a.aggrAddr := by
        rw [show rdAft w ⟨vAggr w a, false⟩ = _ from hn.2]
        exact u4_ok hT.aggrAddr
      simp only [agS, addK, oneOf]
      rw [e1, e2]
      rw [hc] at this
      exact this
    · have := s8 ks (hK.mono (by decide)) h2
      obtain ⟨h1, h2⟩ := F.aggr hc
      have h3 : nar w 0 = 0 := by cases w <;> rfl
      rw [hc, h1, h3, h2] at this
      rw [h1]
      exact this
  have s6 : ∀ rest, (∀ ks, Kinv 6 0 ks → 2 ∈ ks → ∃ g', Fin w a g' ∧ Reads ⟨{ a with path := narP w a.path, hasAggr := false, aggrAS := 0, aggrAddr := 0, comms := [], raws := [] }, ks, [], false, 0, [], w⟩ (rest) g') → ∀ ks, Kinv 5 0 ks → 2 ∈ ks → ∃ g', Fin w a g' ∧ Reads ⟨{ a with path := narP w a.path, hasAggr := false, aggrAS := 0, aggrAddr := 0, comms := [], raws := [], atomic := false }, ks, [], false, 0, [], w⟩ (opt a.atomic (attrS 64 6 []) ++ rest) g' := by
    intro rest hn ks hK h2
    refine Reads.optA f1 (by decide) (hK.not (by decide) (by decide)) (by decide) (fun hc => ⟨by simp, by simp, form_fine f1 rfl (by decide) (by simp [badS, oneOf, lkL, lkM]), knF_one (by decide) (by decide) (by decide) (by decide), ?_⟩) fun hc => ?_
    · rw [knG_6 (g := addK _ 6) (x := oneOf 64 6 []) rfl]
      have := hn (ks ++ [6]) (hK.add (by decide) (by decide)) (List.mem_append_left _ h2)
      rw [hc] at this
      exact this
    · have := hn ks (hK.mono (by decide)) h2
      rw [hc] at this
      exact this
  have s5 : ∀ rest, (∀ ks, Kinv 5 0 ks → 2 ∈ ks → ∃ g', Fin w a g' ∧ Reads ⟨{ a with path := narP w a.path, hasAggr := false, aggrAS := 0, aggrAddr := 0, comms := [], raws := [], atomic := false }, ks, [], false, 0, [], w⟩ (rest) g') → ∀ ks, Kinv 4 0 ks → 2 ∈ ks → ∃ g', Fin w a g' ∧ Reads ⟨{ a with path := narP w a.path, hasAggr := false, aggrAS := 0, aggrAddr := 0, comms := [], raws := [], atomic := false, pref := -1 }, ks, [], false, 0, [], w⟩ (opt (decide (0 ≤ a.pref)) (attrS 64 5 (put32S (a.pref % 4294967296))) ++ rest) g' := by
    intro rest hn ks hK h2
    have hr := F.pref
    refine Reads.optA f1 (by decide) (hK.not (by decide) (by decide)) (by decide) (fun hc => ⟨by simp, by simp, form_fine f1 rfl (by decide) (by simp [badS, oneOf, lkL, lkM]), knF_one (by decide) (by decide) (by decide) (by decide), ?_⟩) fun hc => ?_
    · have hc2 := of_decide_eq_true hc
      have e : a.pref % 4294967296 = a.pref := by omega
      rw [e, knG_5 (g := addK _ 5) (x := oneOf 64 5 (put32S a.pref)) rfl]
      have e2 : u4 (oneOf 64 5 (put32S a.pref)).value = a.pref := u4_ok ⟨hc2, by omega⟩
      rw [e2]
      exact hn (ks ++ [5]) (hK.add (by decide) (by decide)) (List.mem_append_left _ h2)
    · have hc2 := of_decide_eq_false hc
      have e : a.pref = -1 := by omega
      have := hn ks (hK.mono (by decide)) h2
      rw [e] at this
      exact this
  have s4 : ∀ rest, (∀ ks, Kinv 4 0 ks → 2 ∈ ks → ∃ g', Fin w a g' ∧ Reads ⟨{ a with path := narP w a.path, hasAggr := false, aggrAS := 0, aggrAddr := 0, comms := [], raws := [], atomic := false, pref := -1 }, ks, [], false, 0, [], w⟩ (rest) g') → ∀ ks, Kinv 3 0 ks → 2 ∈ ks → ∃ g', Fin w a g' ∧ Reads ⟨{ a with path := narP w a.path, hasAggr := false, aggrAS := 0, aggrAddr := 0, comms := [], raws := [], atomic := false, pref := -1, med := -1 }, ks, [], false, 0, [], w⟩ (opt (decide (0 ≤ a.med)) (attrS 128 4 (put32S (a.med % 4294967296))) ++ rest) g' := by
    intro rest hn ks hK h2
    have hr := F.med
    refine Reads.optA f2 (by decide) (hK.not (by decide) (by decide)) (by decide) (fun hc => ⟨by simp, by simp, form_fine f2 rfl (by decide) (by simp [badS, oneOf, lkL, lkM]), knF_one (by decide) (by decide) (by decide) (by decide), ?_⟩) fun hc => ?_
    · have hc2 := of_decide_eq_true hc
      have e : a.med % 4294967296 = a.med := by omega
      rw [e, knG_4 (g := addK _ 4) (x := oneOf 128 4 (put32S a.med)) rfl]
      have e2 : u4 (oneOf 128 4 (put32S a.med)).value = a.med := u4_ok ⟨hc2, by omega⟩
      rw [e2]
      exact hn (ks ++ [4]) (hK.add (by decide) (by decide)) (List.mem_append_left _ h2)
    · have hc2 := of_decide_eq_false hc
      have e : a.med = -1 := by omega
      have := hn ks (hK.mono (by decide)) h2
      rw [e] at this
      exact this
  have s3 : ∀ rest, (∀ ks, Kinv 3 0 ks → 2 ∈ ks → ∃ g', Fin w a g' ∧ Reads ⟨{ a with path := narP w a.path, hasAggr := false, aggrAS := 0, aggrAddr := 0, comms := [], raws := [], atomic := false, pref := -1, med := -1 }, ks, [], false, 0, [], w⟩ (rest) g') → ∀ ks, Kinv 2 0 ks → 2 ∈ ks → ∃ g', Fin w a g' ∧ Reads ⟨{ a with path := narP w a.path, hasAggr := false, aggrAS := 0, aggrAddr := 0, comms := [], raws := [], atomic := false, pref := -1, med := -1, next := 0 }, ks, [], false, 0, [], w⟩ (opt true (attrS 64 3 (put32S a.next)) ++ rest) g' := by
    intro rest hn ks hK h2
    have e2 : u4 (put32S a.next) = a.next := u4_ok hT.next
    refine Reads.optA f1 (by decide) (hK.not (by decide) (by decide)) (by decide) (fun hc => ⟨by simp, by simp, form_fine f1 rfl (by decide) (by simp [badS, oneOf, lkL, lkM]), by rw [knF_3t (x := oneOf 64 3 (put32S a.next)) rfl (by show nextS (u4 (put32S a.next)) = true; rw [e2]; exact hN)]; rfl, ?_⟩) fun hc => by cases hc
    rw [knG_3 (g := addK _ 3) (x := oneOf 64 3 (put32S a.next)) rfl]
    rw [show u4 (oneOf 64 3 (put32S a.next)).value = a.next from e2]
    exact hn (ks ++ [3]) (hK.add (by decide) (by decide)) (List.mem_append_left _ h2)
  have s2 : ∀ rest, (∀ ks, Kinv 2 0 ks → 2 ∈ ks → ∃ g', Fin w a g' ∧ Reads ⟨{ a with path := narP w a.path, hasAggr := false, aggrAS := 0, aggrAddr := 0, comms := [], raws := [], atomic := false, pref := -1, med := -1, next := 0 }, ks, [], false, 0, [], w⟩ (rest) g') → ∀ ks, Kinv 1 0 ks → ∃ g', Fin w a g' ∧ Reads ⟨{ a with path := [], hasAggr := false, aggrAS := 0, aggrAddr := 0, comms := [], raws := [], atomic := false, pref := -1, med := -1, next := 0 }, ks, [], false, 0, [], w⟩ (opt true (attrS 64 2 (pathS w a.path)) ++ rest) g' := by
    intro rest hn ks hK
    have hp := hpl w
    have e1 := pathOk_ok w F.path hT.path
    have k1 : ∀ g : Rdg, g.wide = w → (knF (addK g 2) (oneOf 64 2 (pathS w a.path))).code = 0 := by
      intro g hg
      rw [knF_2t (g := addK g 2) (x := oneOf 64 2 (pathS w a.path)) rfl (by show pathOk g.wide (pathS w a.path) = true; rw [hg]; exact e1)]; rfl
    have k2 : ∀ g : Rdg, g.wide = w → knG (addK g 2) (oneOf 64 2 (pathS w a.path)) = { addK g 2 with a := { g.a with path := narP w a.path } } := by
      intro g hg
      rw [knG_2t (g := addK g 2) (x := oneOf 64 2 (pathS w a.path)) rfl (by show pathOk g.wide (pathS w a.path) = true; rw [hg]; exact e1)]
      have e2 : (rdPath (addK g 2).wide (oneOf 64 2 (pathS w a.path)).value).1 = narP w a.path := by
        show (rdPath g.wide (pathS w a.path)).1 = _
        rw [hg, rdPath_ok w F.path hT.path]
      rw [e2]; rfl
    refine Reads.optA f1 (by decide) (hK.not (by decide) (by decide)) (by decide) (fun hc => ⟨by omega, by show 0 + _ ≤ _; omega, form_fine f1 rfl (by decide) (by simp [badS, oneOf, lkL, lkM]; omega), k1 _ rfl, ?_⟩) fun hc => by cases hc
    rw [k2 _ rfl]
    exact hn (ks ++ [2]) (hK.add (by decide) (by decide)) (List.mem_append_right _ (List.mem_singleton.2 rfl))
  have s1 : ∀ rest, (∀ ks, Kinv 1 0 ks → ∃ g', Fin w a g' ∧ Reads ⟨{ a with path := [], hasAggr := false, aggrAS := 0, aggrAddr := 0, comms := [], raws := [], atomic := false, pref := -1, med := -1, next := 0 }, ks, [], false, 0, [], w⟩ (rest) g') → ∀ ks, Kinv 0 0 ks → ∃ g', Fin w a g' ∧ Reads ⟨{ a with path := [], hasAggr := false, aggrAS := 0, aggrAddr := 0, comms := [], raws := [], atomic := false, pref := -1, med := -1, next := 0, origin := 0 }, ks, [], false, 0, [], w⟩ (opt true (attrS 64 1 [IntKind.u8.wrap a.origin]) ++ rest) g' := by
    intro rest hn ks hK
    have ho0 := F.o0
    have ho2 := F.o2
    have e8 : IntKind.u8.wrap a.origin = a.origin := by rw [IntKind.wrap_u8]; omega
    have e2 : u1 [a.origin] = a.origin := u1_ok ⟨by omega, by omega⟩
    rw [e8]
    refine Reads.optA f1 (by decide) (hK.not (by decide) (by decide)) (by decide) (fun hc => ⟨by simp, by simp, form_fine f1 rfl (by decide) (by simp [badS, oneOf, lkL, lkM]), by rw [knF_1f (x := oneOf 64 1 [a.origin]) rfl (by show ¬ 2 < u1 [a.origin]; rw [e2]; omega)]; rfl, ?_⟩) fun hc => by cases hc
    rw [knG_1 (g := addK _ 1) (x := oneOf 64 1 [a.origin]) rfl]
    rw [show u1 (oneOf 64 1 [a.origin]).value = a.origin from e2]
    exact hn (ks ++ [1]) (hK.add (by decide) (by decide))
  exact s1 _ (s2 _ (s3 _ (s4 _ (s5 _ (s6 _ s7))))) [] (fun x hx => by cases hx)
end Go.Abs
