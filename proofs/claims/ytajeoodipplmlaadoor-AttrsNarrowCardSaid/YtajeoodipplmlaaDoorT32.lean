/-
  THE LAW OF LAYER 4: what was put wide is read as it was.
-/
import Derived.Test.YtajeoodipplmlaaDoorT30
import Derived.Test.YtajeoodipplmlaaDoorT11
import Derived.Test.YtajeoodipplmlaaDoorA1
set_option linter.all false
namespace Go.Abs
open Go Go.Proofs
theorem putA_len {w : Bool} {a : Attrs} (hR : rightS a = true) : (putA w a).length ≤ 1000000 := by
  obtain ⟨_, _, _, _, _, _, _, _, _, h10, h11⟩ := q_len (w := w) (small_of hR)
  rw [putA, if_pos hR]
  have h2 := attrS_le 192 18 (put32S a.aggrAS ++ put32S a.aggrAddr)
  have o := opt_len (!w && decide (65535 < a.aggrAS)) (attrS 192 18 (put32S a.aggrAS ++ put32S a.aggrAddr))
  simp only [q11, List.length_append] at h2 ⊢
  simp at h2
  omega
theorem short_nar {w : Bool} {l : List Seg} (h : pathRight l = true) : Short (narP w l) := short_of_right (by rw [pathRight_nar]; exact h)
theorem short_nil : Short [] := ⟨by decide, by decide, by decide⟩
theorem rawsB_of {a : Attrs} (hT : AttrsT a) : rawsB a.raws := fun r hr => (hT.raws r hr).2.2
/-- What reading comes to. -/
theorem read_back (w : Bool) (a : Attrs) (hR : rightS a = true) (hT : AttrsT a) (hN : nextS a.next = true) : ∃ g2, Fin w a g2 ∧
    ACX Go.Proofs.Tryd.prog G0 23 [.l (bytes (putA w a)), .l (.bool w)] [] [] (.tup [.agg (endG g2).a.cells, .l (ints (endG g2).kinds), .agg noF.cells]) [] [] := by
  obtain ⟨g2, hf, hr⟩ := put_reads w a hR hT hN
  have F := facts_of hR
  refine ⟨g2, hf, attrs_Read_ok (putA w a) w g2 (putA_len hR) ?_ ?_ ?_ ?_⟩
  · rw [putA, if_pos hR]; exact hr.run
  · rw [hf.attrs]; exact short_nar F.path
  · rw [hf.more]; split
    · exact short_of_right F.path
    · exact short_nil
  · rw [hf.newAS]; split
    · simp [vWide]
    · simp
theorem fin_wide {a : Attrs} {g2 : Rdg} (hf : Fin true a g2) : (endG g2).a = a := by
  rw [endG_w (.inl hf.wide), hf.attrs, narP_true, nar_true]

theorem cnt_nar (w : Bool) : ∀ l : List Seg, cnt (narP w l) = cnt l
  | [] => rfl
  | s :: l => by
    have := cnt_nar w l
    simp only [narP, List.map_cons, cnt] at this ⊢
    rw [this]; simp [narSeg]
theorem nar_small {n : Int} (h : ¬ 65535 < n) : nar false n = n := by simp [nar, h]
theorem narP_small : ∀ (l : List Seg), bigS (flat l) = false → narP false l = l
  | [], _ => rfl
  | s :: l, h => by
    have e : flat (s :: l) = s.nums ++ flat l := by simp [flat]
    rw [e, bigS, List.any_append, Bool.or_eq_false_iff] at h
    have h2 := narP_small l h.2
    have h1 : s.nums.map (nar false) = s.nums := by
      have : ∀ n ∈ s.nums, nar false n = n := fun n hn => nar_small (by have := List.any_eq_false.1 h.1 n hn; simpa using this)
      rw [List.map_congr_left this]; simp
    simp only [narP, List.map_cons] at h2 ⊢
    rw [h2]
    simp [narSeg, h1]
theorem merge_narrow {l : List Seg} (hR : pathRight l = true) : mergeS (narP false l) (if bigS (flat l) = true then l else []) = l := by
  cases hb : bigS (flat l) with
  | false =>
    rw [if_neg Bool.false_ne_true, narP_small l hb]
    simp [mergeS]
  | true =>
    rw [if_pos rfl]
    have hne : ¬ l = [] := by intro h; subst h; cases hb
    have hRn : pathRight (narP false l) = true := by rw [pathRight_nar]; exact hR
    have hno : ¬ (l = [] ∨ pathRight (narP false l) = false ∨ pathRight l = false ∨ cnt (narP false l) < cnt l) := by
      rintro (h | h | h | h)
      · exact hne h
      · rw [hRn] at h; cases h
      · rw [hR] at h; cases h
      · rw [cnt_nar] at h; omega
    have hh : headS (narP false l) (cnt (narP false l) - cnt l) = [] := headS_end (by rw [cnt_nar]; omega)
    rw [mergeS, if_neg hno, hh, List.nil_append, if_pos hR]
theorem fin_narrow {a : Attrs} {g : Rdg} (hR : rightS a = true) (hT : AttrsT a) (hf : Fin false a g) : cnt (endG g).a.path = cnt a.path ∧ (endG g).a.raws = a.raws ∧ (a.hasAggr = false ∨ bigS (flat a.path) = false → (endG g).a = a) := by
  have F := facts_of hR
  have hP : endP g = a.path := by
    rw [endP, if_pos hf.kinds, hf.attrs, hf.more]
    exact merge_narrow F.path
  by_cases h1 : g.wide = true ∨ (g.hasOld = true ∧ ¬ g.oldAS = 23456)
  · rw [endG_w h1]
    have hw : ¬ g.wide = true := by rw [hf.wide]; exact Bool.false_ne_true
    obtain ⟨ho, hn⟩ := h1.resolve_left hw
    rw [hf.old] at ho
    rw [hf.oldAS] at hn
    have hs : ¬ 65535 < a.aggrAS := fun h => hn (by simp [nar, h])
    rw [hf.attrs]
    refine ⟨cnt_nar false a.path, rfl, fun hh => ?_⟩
    rcases hh with hh | hh
    · rw [ho] at hh; cases hh
    · rw [narP_small _ hh, nar_small hs]
  · by_cases h2 : g.hasOld = true ∧ 0 < (g.newAS.length : Int)
    · rw [endG_n h1 h2]
      have hc : (!false && decide (65535 < a.aggrAS)) = true := by
        have := h2.2
        rw [hf.newAS] at this
        cases hd : (!false && decide (65535 < a.aggrAS)) with
        | true => rfl
        | false => rw [hd] at this; simp at this
      have hN : g.newAS = put32S a.aggrAS ++ put32S a.aggrAddr := by rw [hf.newAS, if_pos hc]; rfl
      have e1 : u4 g.newAS = a.aggrAS := by rw [hN]; exact u4_app hT.aggrAS _
      have e2 : (Rd.take ⟨g.newAS, false⟩ 4).2.num 4 = a.aggrAddr := by
        rw [hN, take_app (put32S a.aggrAS) (put32S a.aggrAddr) 4 rfl]
        exact u4_ok hT.aggrAddr
      rw [hP, e1, e2, hf.attrs]
      exact ⟨rfl, rfl, fun _ => rfl⟩
    · rw [endG_o h1 h2]
      have hA : nar false a.aggrAS = a.aggrAS := by
        by_cases hb : 65535 < a.aggrAS
        · cases hh : a.hasAggr with
          | false => rw [(F.aggr hh).1]; rfl
          | true =>
            have hc : (!false && decide (65535 < a.aggrAS)) = true := by simp [hb]
            exact absurd ⟨by rw [hf.old]; exact hh, by rw [hf.newAS, if_pos hc]; simp [vWide]⟩ h2
        · exact nar_small hb
      simp only [withP]
      rw [hP, hf.attrs, hA]
      exact ⟨rfl, rfl, fun _ => rfl⟩
def bigN : List Int → Int
  | [] => 0
  | n :: l => (if 65535 < n then 1 else 0) + bigN l
theorem bigN_app (a b : List Int) : bigN (a ++ b) = bigN a + bigN b := by
  induction a with
  | nil => simp [bigN]
  | cons n a ih => simp only [List.cons_append, bigN, ih]; omega
theorem bigN_range : ∀ l : List Int, 0 ≤ bigN l ∧ bigN l ≤ l.length
  | [] => by simp [bigN]
  | n :: l => by have := bigN_range l; simp only [bigN, List.length_cons]; split <;> omega
theorem bigN_zero : ∀ l : List Int, bigN l = 0 ↔ bigS l = false
  | [] => by simp [bigN, bigS]
  | n :: l => by
    have h1 := bigN_zero l
    have h2 := bigN_range l
    simp only [bigN, bigS, List.any_cons, Bool.or_eq_false_iff, decide_eq_false_iff_not] at h1 ⊢
    by_cases h : 65535 < n
    · rw [if_pos h]; constructor
      · intro hh; omega
      · intro hh; exact absurd h hh.1
    · rw [if_neg h]; constructor
      · intro hh; exact ⟨h, h1.1 (by omega)⟩
      · intro hh; have := h1.2 hh.2; omega
theorem bigN_take {l : List Int} {k : Nat} (hk : k < l.length) : bigN (l.take (k + 1)) = bigN (l.take k) + (if 65535 < l[k] then 1 else 0) := by
  rw [List.take_succ_eq_append_getElem hk, bigN_app]; simp [bigN]

section
attribute [local go_sem] Attrs.cells segs u32s raws bytes ints Flt.cells
set_option maxRecDepth 20000 in
set_option maxHeartbeats 8000000 in
theorem law_AttrsNarrow_ok (a : Attrs) (hT : AttrsT a) : ACX Go.Proofs.Tryd.prog G0 7 [.agg a.cells] [] [] (.l (.bool true)) [] [] := by
 refine acalls_intro Go.Proofs.Tryd.func7 rfl (by kernel_rfl) Go.Proofs.Tryd.ntmps7 Go.Proofs.Tryd.results7 (by simp) rfl rfl ?_
 try simp only [go_sem]
 refine awp_seq_k fun K1 hK1 => ?_
 refine awp_regionL (by rfl) ?_
 try simp only [go_sem]
 refine hK1 _ _ _ (awp_keep [1] ?_)
 try clear hK1 K1
 try simp only [go_sem]
 refine awp_seq_k fun K2 hK2 => ?_
 refine awp_seq_k fun K3 hK3 => ?_
 refine awp_regionL (by rfl) ?_
 try simp only [go_sem]
 refine acall_pa (law04_Few_ok a) ?_
 try simp only [go_sem]
 repeat (refine Must.au ?_; try simp only [go_sem])
 refine gcall_p ?_ (by rfl) (by simp only [go_sem]; rfl) (fun hg => ⟨ref04_Right_ok a, by simp only [hg, go_sem]⟩) ?_
 ·
  rfl
 try simp only [go_sem]
 repeat (refine Must.au ?_; try simp only [go_sem])
 refine gcall_p ?_ (by rfl) (by simp only [go_sem]; rfl) (fun hg => ⟨ref04_Next_ok a.next hT.next.1 hT.next.2, by simp only [hg, go_sem]⟩) ?_
 ·
  rfl
 try simp only [go_sem]
 repeat (refine Must.au ?_; try simp only [go_sem])
 repeat (refine Must.au ?_; try simp only [go_sem])
 refine hK3 _ _ _ (awp_keep [1, 24] ?_)
 try clear hK3 K3
 try simp only [go_sem]
 refine awp_cond (by rfl) (fun hc0 => ?_) (fun hc0 => ?_)
 ·
  skip
  try simp only [decide_eq_true_eq, decide_eq_false_iff_not, Bool.not_eq_true', Bool.not_eq_false', Bool.and_eq_true, Bool.or_eq_true, Bool.or_eq_false_iff, Bool.and_eq_false_imp] at hc0
  refine awp_seq_k fun K4 hK4 => ?_
  refine awp_regionL (by rfl) ?_
  try simp only [go_sem]
  refine acall_pa (law04_awake_ok) ?_
  try simp only [go_sem]
  refine hK4 _ _ _ (awp_keep [2] ?_)
  try clear hK4 K4
  try simp only [go_sem]
  refine awp_ret ?_
  try simp only [go_sem]
  try clear hK4 K4
  try clear hK3 K3
  try clear hK2 K2
  try clear hK1 K1
  refine ret_p (by simp) (by rfl) ?_ (by rfl)
  (try simp (disch := omega) only [w_i64, w_u8, w_u16, w_u32, w_u64]); simp only [go_sem] <;> (first | exact hx | exact hy | rfl | trivial)
 ·
  skip
  try simp only [decide_eq_true_eq, decide_eq_false_iff_not, Bool.not_eq_true', Bool.not_eq_false', Bool.and_eq_true, Bool.or_eq_true, Bool.or_eq_false_iff, Bool.and_eq_false_imp] at hc0
  obtain ⟨⟨hF, hR⟩, hN⟩ := hc0
  obtain ⟨g2, hfin, hread⟩ := read_back false a hR hT hN
  obtain ⟨hcnt, hraw, hsame⟩ := fin_narrow hR hT hfin
  have hsa := short_of_right (facts_of hR).path
  have hca : cnt a.path ≤ 1000000000 := by have := hsa.2.1; omega
  have hcx : cnt (endG g2).a.path ≤ 1000000000 := by rw [hcnt]; exact hca
  have hxr : rawsB (endG g2).a.raws := by rw [hraw]; exact rawsB_of hT
  have hpe : putE a = 0 := by rw [putE, if_pos hR]
  refine awp_skip ?_
  try simp only [go_sem]
  refine hK2 _ _ _ (awp_keep [1] ?_)
  try clear hK2 K2
  try simp only [go_sem]
  refine awp_seq_k fun K5 hK5 => ?_
  refine awp_regionL (by rfl) ?_
  try simp only [go_sem]
  refine acall_pa (attrs_Put_ok a false hT) ?_
  try simp only [go_sem]
  refine hK5 _ _ _ (awp_keep [1, 3, 4] ?_)
  try clear hK5 K5
  try simp only [go_sem]
  refine awp_seq_k fun K6 hK6 => ?_
  refine awp_regionL (by rfl) ?_
  try simp only [go_sem]
  refine acall_pa (hread) ?_
  try simp only [go_sem]
  refine hK6 _ _ _ (awp_keep [1, 4, 5, 7] ?_)
  try clear hK6 K6
  try simp only [go_sem]
  refine awp_seq_k fun K7 hK7 => ?_
  refine awp_seq_k fun K8 hK8 => ?_
  refine awp_drawP (by kernel_rfl) (by rfl) (by kernel_rfl) (fun _ => true) (.early 0 (.early 1 (.early 2 (.early 3 (.early 4 (.early 5 (.early 6 (.early 7 (.early 8 (.early 9 (.early 11 (.early 12 (.last 10 (.late 13 (.early 14 (.early 15 .done)))))))))))))))) (by kernel_rfl) (fun _ _ _ _ => by simp only [go_sem, not_false_eq_true]) ?_
  try simp only [go_sem]
  refine gcall_p ?_ (by rfl) (by simp only [go_sem]; rfl) (fun hg => ⟨ref03_Count_ok (endG g2).a.path hcx, by simp only [hg, go_sem]⟩) ?_
  ·
   rfl
  try simp only [go_sem]
  repeat (refine Must.au ?_; try simp only [go_sem])
  refine gcall_p ?_ (by rfl) (by simp only [go_sem]; rfl) (fun hg => ⟨ref03_Count_ok a.path hca, by simp only [hg, go_sem]⟩) ?_
  ·
   rfl
  try simp only [go_sem]
  repeat (refine Must.au ?_; try simp only [go_sem])
  repeat (refine Must.au ?_; try simp only [go_sem])
  refine hK8 _ _ _ (awp_keep [1, 5, 52] ?_)
  try clear hK8 K8
  try simp only [go_sem]
  refine awp_cond (by rfl) (fun hc1 => ?_) (fun hc1 => ?_)
  ·
   skip
   simp [hpe, hcnt, noF] at hc1
  ·
   skip
   try simp only [decide_eq_true_eq, decide_eq_false_iff_not, Bool.not_eq_true', Bool.not_eq_false', Bool.and_eq_true, Bool.or_eq_true, Bool.or_eq_false_iff, Bool.and_eq_false_imp] at hc1
   refine awp_skip ?_
   try simp only [go_sem]
   refine hK7 _ _ _ (awp_keep [1, 5] ?_)
   try clear hK7 K7
   try simp only [go_sem]
   refine awp_seq_k fun K9 hK9 => ?_
   refine awp_regionL (by rfl) ?_
   try simp only [go_sem]
   refine acall_pa (acx_read (ref03_Flat_ok a.path (by have := hsa.2.2; omega) (by have := hsa.1; omega))) ?_
   try simp only [go_sem]
   refine hK9 _ _ _ (awp_keep [1, 5, 8] ?_)
   try clear hK9 K9
   try simp only [go_sem]
   refine awp_seq_k fun K10 hK10 => ?_
   refine awp_regionL (by rfl) ?_
   try simp only [go_sem]
   refine hK10 _ _ _ (awp_keep [1, 5, 8, 9] ?_)
   try clear hK10 K10
   try simp only [go_sem]
   refine awp_seq_k fun K11 hK11 => ?_
   refine awp_seq_k fun K12 hK12 => ?_
   refine awp_regionL (by rfl) ?_
   try simp only [go_sem]
   refine hK12 _ _ _ (awp_keep [1, 5, 8, 9, 10] ?_)
   try clear hK12 K12
   try simp only [go_sem]
   refine awp_block ?_
   refine awp_loopE (α := (Nat)) (fun (k : (Nat)) => k ≤ (flat a.path).length) (fun (k : (Nat)) => (flat a.path).length - k) (fun (k : (Nat)) => [(9, .l (.int .i64 (bigN ((flat a.path).take k)))), (10, .l (.int .i64 (k : Int)))]) (fun (k : (Nat)) => [⟨27, a.cells⟩, ⟨27, (endG g2).a.cells⟩, ⟨46, noF.cells⟩]) (fun (k : (Nat)) => []) [1, 5, 8] 0 [] ?_ ?_ ?_
   ·
    simp only [Lss, go_sem]
    (repeat' apply And.intro) <;> first | rfl | omega | trivial | (simp; done)
   ·
    first | trivial | omega | (simp; done) | (constructor <;> omega)
   rintro k hk K13 hK13
   try simp only [go_sem]
   have hbr := bigN_range ((flat a.path).take k)
   have hfl := flat_len a.path
   have hsa1 := hsa.1
   have htl : ((flat a.path).take k).length ≤ k := by simp; omega
   refine awp_seq_k fun K14 hK14 => ?_
   refine awp_seq_k fun K15 hK15 => ?_
   refine awp_regionL (by rfl) ?_
   try simp only [go_sem]
   refine hK15 _ _ _ (awp_keep [1, 5, 8, 9, 10, 59] ?_)
   try clear hK15 K15
   try simp only [go_sem]
   refine awp_cond (by rfl) (fun hc2 => ?_) (fun hc2 => ?_)
   ·
    skip
    try simp only [decide_eq_true_eq, decide_eq_false_iff_not, Bool.not_eq_true', Bool.not_eq_false', Bool.and_eq_true, Bool.or_eq_true, Bool.or_eq_false_iff, Bool.and_eq_false_imp] at hc2
    have hk2 : k < (flat a.path).length := by omega
    refine awp_skip ?_
    try simp only [go_sem]
    refine hK14 _ _ _ (awp_keep [1, 5, 8, 9, 10] ?_)
    try clear hK14 K14
    try simp only [go_sem]
    refine awp_seq_k fun K16 hK16 => ?_
    refine awp_block ?_
    refine awp_seq_k fun K17 hK17 => ?_
    refine awp_regionL (by rfl) ?_
    try simp only [go_sem]
    refine ix_map k rfl (by omega) ?_
    try simp only [go_sem]
    refine hK17 _ _ _ (awp_keep [1, 5, 8, 9, 10, 66] ?_)
    try clear hK17 K17
    try simp only [go_sem]
    refine awp_cond (by rfl) (fun hc3 => ?_) (fun hc3 => ?_)
    ·
     skip
     try simp only [decide_eq_true_eq, decide_eq_false_iff_not, Bool.not_eq_true', Bool.not_eq_false', Bool.and_eq_true, Bool.or_eq_true, Bool.or_eq_false_iff, Bool.and_eq_false_imp] at hc3
     refine awp_regionL (by rfl) ?_
     try simp only [go_sem]
     try simp (disch := omega) only [w_i64, w_u8, w_u16, w_u32, w_u64]
     refine hK16 _ _ _ (awp_keep [1, 5, 8, 9, 10] ?_)
     try simp only [go_sem]
     refine awp_regionL (by rfl) ?_
     try simp only [go_sem]
     try simp (disch := omega) only [w_i64, w_u8, w_u16, w_u32, w_u64]
     have hs := bigN_take hk2
     refine hK13 _ _ _ ⟨k + 1, [], ?_, ?_⟩
     ·
      (try simp (disch := omega) only [w_i64, w_u8, w_u16, w_u32, w_u64]); simp only [Lss, go_sem, hs]
      (repeat' apply And.intro) <;> first | rfl | omega | trivial | (simp; done)
     ·
      first | omega | (constructor <;> omega) | trivial
    ·
     skip
     try simp only [decide_eq_true_eq, decide_eq_false_iff_not, Bool.not_eq_true', Bool.not_eq_false', Bool.and_eq_true, Bool.or_eq_true, Bool.or_eq_false_iff, Bool.and_eq_false_imp] at hc3
     refine awp_skip ?_
     try simp only [go_sem]
     refine hK16 _ _ _ (awp_keep [1, 5, 8, 9, 10] ?_)
     try simp only [go_sem]
     refine awp_regionL (by rfl) ?_
     try simp only [go_sem]
     try simp (disch := omega) only [w_i64, w_u8, w_u16, w_u32, w_u64]
     have hs := bigN_take hk2
     refine hK13 _ _ _ ⟨k + 1, [], ?_, ?_⟩
     ·
      (try simp (disch := omega) only [w_i64, w_u8, w_u16, w_u32, w_u64]); simp only [Lss, go_sem, hs]
      (repeat' apply And.intro) <;> first | rfl | omega | trivial | (simp; done)
     ·
      first | omega | (constructor <;> omega) | trivial
   ·
    skip
    try simp only [decide_eq_true_eq, decide_eq_false_iff_not, Bool.not_eq_true', Bool.not_eq_false', Bool.and_eq_true, Bool.or_eq_true, Bool.or_eq_false_iff, Bool.and_eq_false_imp] at hc2
    obtain rfl : k = (flat a.path).length := by omega
    simp only [List.take_length]
    refine awp_exit ?_
    try simp only [go_sem]
    refine hK11 _ _ _ (awp_keep [1, 5, 9] ?_)
    try clear hK11 K11
    try simp only [go_sem]
    refine awp_seq_k fun K18 hK18 => ?_
    refine awp_seq_k fun K19 hK19 => ?_
    refine awp_regionL (by rfl) ?_
    try simp only [go_sem]
    repeat (refine Must.au ?_; try simp only [go_sem])
    refine hK19 _ _ _ (awp_keep [1, 5, 9, 80] ?_)
    try clear hK19 K19
    try simp only [go_sem]
    refine awp_cond (by rfl) (fun hc4 => ?_) (fun hc4 => ?_)
    ·
     skip
     try simp only [decide_eq_true_eq, decide_eq_false_iff_not, Bool.not_eq_true', Bool.not_eq_false', Bool.and_eq_true, Bool.or_eq_true, Bool.or_eq_false_iff, Bool.and_eq_false_imp] at hc4
     have hx : (endG g2).a = a := hsame (.inr ((bigN_zero _).1 hc4.1.1))
     refine awp_seq_k fun K20 hK20 => ?_
     refine awp_regionL (by rfl) ?_
     try simp only [go_sem]
     refine acall_pa (ref04_Same_ok (endG g2).a a hxr (rawsB_of hT)) ?_
     try simp only [go_sem]
     repeat (refine Must.au ?_; try simp only [go_sem])
     refine gcall_p ?_ (by rfl) (by simp only [go_sem]; rfl) (fun hg => ⟨law04_awake_ok, by simp only [hg, go_sem]⟩) ?_
     ·
      rfl
     try simp only [go_sem]
     repeat (refine Must.au ?_; try simp only [go_sem])
     repeat (refine Must.au ?_; try simp only [go_sem])
     refine hK20 _ _ _ (awp_keep [2] ?_)
     try clear hK20 K20
     try simp only [go_sem]
     refine awp_ret ?_
     try simp only [go_sem]
     try clear hK20 K20
     try clear hK19 K19
     try clear hK18 K18
     try clear hK17 K17
     try clear hK16 K16
     try clear hK15 K15
     try clear hK14 K14
     try clear hK13 K13
     try clear hK12 K12
     try clear hK11 K11
     try clear hK10 K10
     try clear hK9 K9
     try clear hK8 K8
     try clear hK7 K7
     try clear hK6 K6
     try clear hK5 K5
     try clear hK4 K4
     try clear hK3 K3
     try clear hK2 K2
     try clear hK1 K1
     refine ret_p (by simp) (by rfl) ?_ (by rfl)
     (try simp (disch := omega) only [w_i64, w_u8, w_u16, w_u32, w_u64]); simp only [go_sem] <;> (first | exact hx | exact hy | rfl | trivial)
    ·
     skip
     try simp only [decide_eq_true_eq, decide_eq_false_iff_not, Bool.not_eq_true', Bool.not_eq_false', Bool.and_eq_true, Bool.or_eq_true, Bool.or_eq_false_iff, Bool.and_eq_false_imp] at hc4
     have hy : (a.hasAggr || decide (bigN (flat a.path) = 0) || decide ((endG g2).a = a)) = true := by
      cases hh : a.hasAggr
      ·
       simp [hsame (.inl hh)]
      ·
       simp
     refine awp_skip ?_
     try simp only [go_sem]
     refine hK18 _ _ _ (awp_keep [1, 5, 9] ?_)
     try clear hK18 K18
     try simp only [go_sem]
     refine awp_seq_k fun K21 hK21 => ?_
     refine awp_regionL (by rfl) ?_
     try simp only [go_sem]
     refine gcall_p ?_ (by rfl) (by simp only [go_sem]; rfl) (fun hg => ⟨ref04_Same_ok (endG g2).a a hxr (rawsB_of hT), by simp only [hg, go_sem]⟩) ?_
     ·
      rfl
     try simp only [go_sem]
     repeat (refine Must.au ?_; try simp only [go_sem])
     refine gcall_p ?_ (by rfl) (by simp only [go_sem]; rfl) (fun hg => ⟨law04_awake_ok, by simp only [hg, go_sem]⟩) ?_
     ·
      rfl
     try simp only [go_sem]
     repeat (refine Must.au ?_; try simp only [go_sem])
     repeat (refine Must.au ?_; try simp only [go_sem])
     refine hK21 _ _ _ (awp_keep [2] ?_)
     try clear hK21 K21
     try simp only [go_sem]
     refine awp_ret ?_
     try simp only [go_sem]
     try clear hK21 K21
     try clear hK20 K20
     try clear hK19 K19
     try clear hK18 K18
     try clear hK17 K17
     try clear hK16 K16
     try clear hK15 K15
     try clear hK14 K14
     try clear hK13 K13
     try clear hK12 K12
     try clear hK11 K11
     try clear hK10 K10
     try clear hK9 K9
     try clear hK8 K8
     try clear hK7 K7
     try clear hK6 K6
     try clear hK5 K5
     try clear hK4 K4
     try clear hK3 K3
     try clear hK2 K2
     try clear hK1 K1
     refine ret_p (by simp) (by rfl) ?_ (by rfl)
     (try simp (disch := omega) only [w_i64, w_u8, w_u16, w_u32, w_u64]); simp only [go_sem] <;> (first | exact hx | exact hy | rfl | trivial)
end

end Go.Abs
