/-
  THE DOCUMENT'S ANSWER: when two attributes are the same.
-/
import Derived.Test.YtajeoodipplmlaaDoorT10
set_option linter.all false
namespace Go.Abs
open Go Go.Proofs
/-- Bytes of attributes that are kept as they came are bytes. -/
def rawsB (l : List Raw) : Prop := ∀ r ∈ l, isB r.data
theorem raw_eq {x y : Raw} (h : (x.flags = y.flags ∧ x.typ = y.typ) ∧ x.data = y.data) : x = y := by
  cases x; cases y; simp only at h; simp [h.1.1, h.1.2, h.2]
theorem attrs_eq_iff {a b : Attrs} (h1 : a.path = b.path) (h2 : a.comms = b.comms) (h3 : a.raws = b.raws) (h : (((a.origin = b.origin ∧ a.next = b.next) ∧ a.med = b.med) ∧ a.pref = b.pref) ∧ (a.atomic == b.atomic) = true) :
    (a.hasAggr == b.hasAggr && decide (a.aggrAS = b.aggrAS) && decide (a.aggrAddr = b.aggrAddr)) = decide (a = b) := by
  obtain ⟨⟨⟨⟨h4, h5⟩, h6⟩, h7⟩, h8⟩ := h
  have h9 := eq_of_beq h8
  clear h8
  cases a; cases b
  simp only at h1 h2 h3 h4 h5 h6 h7 h9
  subst h1 h2 h3 h4 h5 h6 h7 h9
  rw [Bool.eq_iff_iff]
  simp [and_assoc]

section
attribute [local go_sem] Attrs.cells segs u32s raws Raw.cells bytes
set_option maxRecDepth 20000 in
set_option maxHeartbeats 8000000 in
theorem ref04_Same_ok (a b : Attrs) (ha : rawsB a.raws) (hb : rawsB b.raws) : ACX Go.Proofs.Tryd.prog G0 16 [.agg a.cells, .agg b.cells] [] [] (.l (.bool (decide (a = b)))) [] [] := by
 refine acalls_intro Go.Proofs.Tryd.func16 rfl (by kernel_rfl) Go.Proofs.Tryd.ntmps16 Go.Proofs.Tryd.results16 (by simp) rfl rfl ?_
 try simp only [go_sem]
 refine awp_lenAgg 0 10 rfl rfl fun hlen => ?_
 simp only [rwl_length] at hlen
 refine awp_seq_k fun K1 hK1 => ?_
 refine awp_regionL (by rfl) ?_
 try simp only [go_sem]
 refine hK1 _ _ _ (awp_keep [2, 3] ?_)
 try clear hK1 K1
 try simp only [go_sem]
 refine awp_seq_k fun K2 hK2 => ?_
 refine awp_seq_k fun K3 hK3 => ?_
 refine awp_regionL (by rfl) ?_
 try simp only [go_sem]
 refine gcall_p ?_ (by rfl) (by simp only [go_sem]; rfl) (fun hg => ⟨ref03_Same_ok a.path b.path, by simp only [hg, go_sem]⟩) ?_
 ·
  rfl
 try simp only [go_sem]
 repeat (refine Must.au ?_; try simp only [go_sem])
 refine gcall_p ?_ (by rfl) (by simp only [go_sem]; rfl) (fun hg => ⟨ref03_Nums_ok a.comms b.comms, by simp only [hg, go_sem]⟩) ?_
 ·
  rfl
 try simp only [go_sem]
 repeat (refine Must.au ?_; try simp only [go_sem])
 repeat (refine Must.au ?_; try simp only [go_sem])
 refine hK3 _ _ _ (awp_keep [2, 3, 28] ?_)
 try clear hK3 K3
 try simp only [go_sem]
 refine awp_cond (by rfl) (fun hc0 => ?_) (fun hc0 => ?_)
 ·
  skip
  try simp only [decide_eq_true_eq, decide_eq_false_iff_not, Bool.not_eq_true', Bool.not_eq_false', Bool.and_eq_true, Bool.or_eq_true, Bool.or_eq_false_iff, Bool.and_eq_false_imp] at hc0
  refine awp_seq_k fun K4 hK4 => ?_
  refine awp_regionL (by rfl) ?_
  try simp only [go_sem]
  refine hK4 _ _ _ (awp_keep [4] ?_)
  try clear hK4 K4
  try simp only [go_sem]
  refine awp_ret ?_
  try simp only [go_sem]
  try clear hK4 K4
  try clear hK3 K3
  try clear hK2 K2
  try clear hK1 K1
  refine ret_p (by simp) (by rfl) ?_ (by rfl)
  (try simp (disch := omega) only [w_i64, w_u8, w_u16, w_u32, w_u64]); simp only [go_sem] <;> (exact (decide_eq_false (fun h => by subst h; simp at hc0)).symm)
 ·
  skip
  try simp only [decide_eq_true_eq, decide_eq_false_iff_not, Bool.not_eq_true', Bool.not_eq_false', Bool.and_eq_true, Bool.or_eq_true, Bool.or_eq_false_iff, Bool.and_eq_false_imp] at hc0
  refine awp_skip ?_
  try simp only [go_sem]
  refine hK2 _ _ _ (awp_keep [2, 3] ?_)
  try clear hK2 K2
  try simp only [go_sem]
  refine awp_seq_k fun K5 hK5 => ?_
  refine awp_seq_k fun K6 hK6 => ?_
  refine awp_regionL (by rfl) ?_
  try simp only [go_sem]
  refine hK6 _ _ _ (awp_keep [2, 3, 5] ?_)
  try clear hK6 K6
  try simp only [go_sem]
  refine awp_block ?_
  refine awp_loopE (α := (Nat)) (fun (k : (Nat)) => k ≤ a.raws.length ∧ a.raws.take k = b.raws.take k) (fun (k : (Nat)) => a.raws.length - k) (fun (k : (Nat)) => [(5, .l (.int .i64 (k : Int)))]) (fun (k : (Nat)) => [⟨27, a.cells⟩, ⟨27, b.cells⟩]) (fun (k : (Nat)) => []) [2, 3] 0 [] ?_ ?_ ?_
  ·
   simp only [Lss, go_sem]
   (repeat' apply And.intro) <;> first | rfl | omega | trivial | (simp; done)
  ·
   exact ⟨by omega, rfl⟩
  rintro k ⟨hk, he⟩ K7 hK7
  try simp only [go_sem]
  refine awp_seq_k fun K8 hK8 => ?_
  refine awp_seq_k fun K9 hK9 => ?_
  refine awp_regionL (by rfl) ?_
  try simp only [go_sem]
  refine hK9 _ _ _ (awp_keep [2, 3, 5, 33] ?_)
  try clear hK9 K9
  try simp only [go_sem]
  refine awp_cond (by rfl) (fun hc1 => ?_) (fun hc1 => ?_)
  ·
   skip
   try simp only [decide_eq_true_eq, decide_eq_false_iff_not, Bool.not_eq_true', Bool.not_eq_false', Bool.and_eq_true, Bool.or_eq_true, Bool.or_eq_false_iff, Bool.and_eq_false_imp] at hc1
   have hk2 : k < a.raws.length := by omega
   have hk3 : k < b.raws.length := by omega
   refine awp_skip ?_
   try simp only [go_sem]
   refine hK8 _ _ _ (awp_keep [2, 3, 5] ?_)
   try clear hK8 K8
   try simp only [go_sem]
   refine awp_seq_k fun K10 hK10 => ?_
   refine awp_block ?_
   refine awp_seq_k fun K11 hK11 => ?_
   refine awp_drawP (by kernel_rfl) (by rfl) (by kernel_rfl) (fun _ => true) (.early 0 (.early 1 (.early 2 (.early 3 (.early 4 (.early 5 (.early 6 (.early 7 (.early 8 (.early 9 (.early 10 (.early 11 (.early 12 (.early 13 (.early 14 (.early 15 (.early 16 (.early 17 (.early 18 (.early 19 (.early 20 (.early 21 (.early 22 (.early 23 (.early 24 (.early 25 (.early 26 (.early 27 (.early 28 (.early 29 (.early 30 (.early 31 (.early 32 (.early 33 (.early 34 (.early 35 (.early 36 (.early 37 (.early 38 (.early 39 (.early 40 (.late 41 (.early 42 (.early 43 .done)))))))))))))))))))))))))))))))))))))))))))) (by kernel_rfl) (fun _ _ _ _ => by simp only [go_sem, not_false_eq_true]) ?_
   try simp only [go_sem]
   refine ix_map k rfl (by omega) ?_
   try simp only [go_sem]
   repeat (refine Must.au ?_; try simp only [go_sem])
   refine ix_map k rfl (by omega) ?_
   try simp only [go_sem]
   repeat (refine Must.au ?_; try simp only [go_sem])
   refine gixE (Raw.cells a.raws[k]) (by rfl) (by rfl) (by simp only [go_sem]; rfl) (by simp only [go_sem]) (by decide) (fun hg => ?_) ?_
   ·
    skip
    exact ⟨by omega, by simp [rwl, hk2, hk3, Raw.cells, bytes]⟩
   try simp only [go_sem]
   repeat (refine Must.au ?_; try simp only [go_sem])
   refine gixE (Raw.cells b.raws[k]) (by rfl) (by rfl) (by simp only [go_sem]; rfl) (by simp only [go_sem]) (by decide) (fun hg => ?_) ?_
   ·
    skip
    exact ⟨by omega, by simp [rwl, hk2, hk3, Raw.cells, bytes]⟩
   try simp only [go_sem]
   repeat (refine Must.au ?_; try simp only [go_sem])
   refine gixE (Raw.cells a.raws[k]) (by rfl) (by rfl) (by simp only [go_sem]; rfl) (by simp only [go_sem]) (by decide) (fun hg => ?_) ?_
   ·
    skip
    exact ⟨by omega, by simp [rwl, hk2, hk3, Raw.cells, bytes]⟩
   try simp only [go_sem]
   repeat (refine Must.au ?_; try simp only [go_sem])
   refine gixE (Raw.cells b.raws[k]) (by rfl) (by rfl) (by simp only [go_sem]; rfl) (by simp only [go_sem]) (by decide) (fun hg => ?_) ?_
   ·
    skip
    exact ⟨by omega, by simp [rwl, hk2, hk3, Raw.cells, bytes]⟩
   try simp only [go_sem]
   repeat (refine Must.au ?_; try simp only [go_sem])
   refine gcall_p ?_ (by rfl) (by simp only [go_sem]; rfl) (fun hg => ⟨ref01_Same_ok a.raws[k].data b.raws[k].data (ha _ (List.getElem_mem _)) (hb _ (List.getElem_mem _)), by simp only [hg, go_sem]⟩) ?_
   ·
    rfl
   try simp only [go_sem]
   repeat (refine Must.au ?_; try simp only [go_sem])
   repeat (refine Must.au ?_; try simp only [go_sem])
   refine hK11 _ _ _ (awp_keep [2, 3, 5, 79] ?_)
   try clear hK11 K11
   try simp only [go_sem]
   refine awp_cond (by rfl) (fun hc2 => ?_) (fun hc2 => ?_)
   ·
    skip
    try simp only [decide_eq_true_eq, decide_eq_false_iff_not, Bool.not_eq_true', Bool.not_eq_false', Bool.and_eq_true, Bool.or_eq_true, Bool.or_eq_false_iff, Bool.and_eq_false_imp] at hc2
    refine awp_seq_k fun K12 hK12 => ?_
    refine awp_regionL (by rfl) ?_
    try simp only [go_sem]
    refine hK12 _ _ _ (awp_keep [4] ?_)
    try clear hK12 K12
    try simp only [go_sem]
    refine awp_ret ?_
    try simp only [go_sem]
    try clear hK12 K12
    try clear hK11 K11
    try clear hK10 K10
    try clear hK9 K9
    try clear hK8 K8
    try clear hK7 K7
    try clear hK6 K6
    try clear hK5 K5
    try clear hK4 K4
    try clear hK3 K3
    try clear hK2 K2
    try clear hK1 K1
    refine ret_p (by simp) (by rfl) ?_ (by rfl)
    (try simp (disch := omega) only [w_i64, w_u8, w_u16, w_u32, w_u64]); simp only [go_sem] <;> (exact (decide_eq_false (fun h => by subst h; simp at hc2)).symm)
   ·
    skip
    try simp only [decide_eq_true_eq, decide_eq_false_iff_not, Bool.not_eq_true', Bool.not_eq_false', Bool.and_eq_true, Bool.or_eq_true, Bool.or_eq_false_iff, Bool.and_eq_false_imp] at hc2
    refine awp_skip ?_
    try simp only [go_sem]
    refine hK10 _ _ _ (awp_keep [2, 3, 5] ?_)
    try clear hK10 K10
    try simp only [go_sem]
    refine awp_regionL (by rfl) ?_
    try simp only [go_sem]
    try simp (disch := omega) only [w_i64, w_u8, w_u16, w_u32, w_u64]
    refine hK7 _ _ _ ⟨k + 1, [], ?_, ?_⟩
    ·
     (try simp (disch := omega) only [w_i64, w_u8, w_u16, w_u32, w_u64]); simp only [Lss, go_sem]
     (repeat' apply And.intro) <;> first | rfl | omega | trivial | (simp; done)
    ·
     exact ⟨⟨by omega, take_eq_succ he hk2 hk3 (raw_eq hc2)⟩, by omega⟩
  ·
   skip
   try simp only [decide_eq_true_eq, decide_eq_false_iff_not, Bool.not_eq_true', Bool.not_eq_false', Bool.and_eq_true, Bool.or_eq_true, Bool.or_eq_false_iff, Bool.and_eq_false_imp] at hc1
   skip
   refine awp_exit ?_
   try simp only [go_sem]
   refine hK5 _ _ _ (awp_keep [2, 3] ?_)
   try clear hK5 K5
   try simp only [go_sem]
   refine awp_seq_k fun K13 hK13 => ?_
   refine awp_seq_k fun K14 hK14 => ?_
   refine awp_regionL (by rfl) ?_
   try simp only [go_sem]
   repeat (refine Must.au ?_; try simp only [go_sem])
   refine hK14 _ _ _ (awp_keep [2, 3, 112] ?_)
   try clear hK14 K14
   try simp only [go_sem]
   refine awp_cond (by rfl) (fun hc3 => ?_) (fun hc3 => ?_)
   ·
    skip
    try simp only [decide_eq_true_eq, decide_eq_false_iff_not, Bool.not_eq_true', Bool.not_eq_false', Bool.and_eq_true, Bool.or_eq_true, Bool.or_eq_false_iff, Bool.and_eq_false_imp] at hc3
    refine awp_seq_k fun K15 hK15 => ?_
    refine awp_regionL (by rfl) ?_
    try simp only [go_sem]
    refine hK15 _ _ _ (awp_keep [4] ?_)
    try clear hK15 K15
    try simp only [go_sem]
    refine awp_ret ?_
    try simp only [go_sem]
    try clear hK15 K15
    try clear hK14 K14
    try clear hK13 K13
    try clear hK12 K12
    try clear hK11 K11
    try clear hK10 K10
    try clear hK9 K9
    try clear hK8 K8
    try clear hK7 K7
    try clear hK6 K6
    try clear hK5 K5
    try clear hK4 K4
    try clear hK3 K3
    try clear hK2 K2
    try clear hK1 K1
    refine ret_p (by simp) (by rfl) ?_ (by rfl)
    (try simp (disch := omega) only [w_i64, w_u8, w_u16, w_u32, w_u64]); simp only [go_sem] <;> (exact (decide_eq_false (fun h => by subst h; simp at hc3)).symm)
   ·
    skip
    try simp only [decide_eq_true_eq, decide_eq_false_iff_not, Bool.not_eq_true', Bool.not_eq_false', Bool.and_eq_true, Bool.or_eq_true, Bool.or_eq_false_iff, Bool.and_eq_false_imp] at hc3
    refine awp_skip ?_
    try simp only [go_sem]
    refine hK13 _ _ _ (awp_keep [2, 3] ?_)
    try clear hK13 K13
    try simp only [go_sem]
    refine awp_seq_k fun K16 hK16 => ?_
    refine awp_regionL (by rfl) ?_
    try simp only [go_sem]
    repeat (refine Must.au ?_; try simp only [go_sem])
    refine hK16 _ _ _ (awp_keep [4] ?_)
    try clear hK16 K16
    try simp only [go_sem]
    refine awp_ret ?_
    try simp only [go_sem]
    try clear hK16 K16
    try clear hK15 K15
    try clear hK14 K14
    try clear hK13 K13
    try clear hK12 K12
    try clear hK11 K11
    try clear hK10 K10
    try clear hK9 K9
    try clear hK8 K8
    try clear hK7 K7
    try clear hK6 K6
    try clear hK5 K5
    try clear hK4 K4
    try clear hK3 K3
    try clear hK2 K2
    try clear hK1 K1
    have hr : a.raws = b.raws := eq_of_take he (by omega) (by omega)
    have hq := attrs_eq_iff hc0.1.2 hc0.2 hr hc3
    refine ret_p (by simp) (by rfl) ?_ (by rfl)
    (try simp (disch := omega) only [w_i64, w_u8, w_u16, w_u32, w_u64]); simp only [go_sem] <;> (exact hq)
end

end Go.Abs
