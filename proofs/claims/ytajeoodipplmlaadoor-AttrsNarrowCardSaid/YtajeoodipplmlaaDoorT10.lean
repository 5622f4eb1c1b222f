/-
  THE DOCUMENT'S ANSWER: whether attributes may be, and when two are the same.
-/
import Derived.Test.YtajeoodipplmlaaDoorT9
set_option linter.all false
namespace Go.Abs
open Go Go.Proofs

section
attribute [local go_sem] Attrs.cells segs u32s raws Raw.cells bytes
set_option maxRecDepth 20000 in
set_option maxHeartbeats 8000000 in
theorem ref04_Right_ok (a : Attrs) : ACX Go.Proofs.Tryd.prog G0 11 [.agg a.cells] [] [] (.l (.bool (rightS a))) [] [] := by
 refine acalls_intro Go.Proofs.Tryd.func11 rfl (by kernel_rfl) Go.Proofs.Tryd.ntmps11 Go.Proofs.Tryd.results11 (by simp) rfl rfl ?_
 try simp only [go_sem]
 refine awp_lenAgg 0 10 rfl rfl fun hlen => ?_
 simp only [rwl_length] at hlen
 refine awp_seq_k fun K1 hK1 => ?_
 refine awp_regionL (by rfl) ?_
 try simp only [go_sem]
 refine hK1 _ _ _ (awp_keep [1] ?_)
 try clear hK1 K1
 try simp only [go_sem]
 refine awp_seq_k fun K2 hK2 => ?_
 refine awp_seq_k fun K3 hK3 => ?_
 refine awp_regionL (by rfl) ?_
 try simp only [go_sem]
 refine hK3 _ _ _ (awp_keep [1, 3] ?_)
 try clear hK3 K3
 try simp only [go_sem]
 refine awp_block ?_
 refine awp_loopE (α := (Nat)) (fun (k : (Nat)) => k ≤ a.raws.length ∧ (List.range k).all (rawAt a.raws) = true) (fun (k : (Nat)) => a.raws.length - k) (fun (k : (Nat)) => [(3, .l (.int .i64 (k : Int)))]) (fun (k : (Nat)) => [⟨27, a.cells⟩]) (fun (k : (Nat)) => []) [1] 0 [] ?_ ?_ ?_
 ·
  simp only [Lss, go_sem]
  (repeat' apply And.intro) <;> first | rfl | omega | trivial | (simp; done)
 ·
  exact ⟨by omega, rfl⟩
 rintro k ⟨hk, hok⟩ K4 hK4
 try simp only [go_sem]
 refine awp_seq_k fun K5 hK5 => ?_
 refine awp_seq_k fun K6 hK6 => ?_
 refine awp_regionL (by rfl) ?_
 try simp only [go_sem]
 refine hK6 _ _ _ (awp_keep [1, 3, 9] ?_)
 try clear hK6 K6
 try simp only [go_sem]
 refine awp_cond (by rfl) (fun hc0 => ?_) (fun hc0 => ?_)
 ·
  skip
  try simp only [decide_eq_true_eq, decide_eq_false_iff_not, Bool.not_eq_true', Bool.not_eq_false', Bool.and_eq_true, Bool.or_eq_true, Bool.or_eq_false_iff, Bool.and_eq_false_imp] at hc0
  have hk2 : k < a.raws.length := by omega
  refine awp_skip ?_
  try simp only [go_sem]
  refine hK5 _ _ _ (awp_keep [1, 3] ?_)
  try clear hK5 K5
  try simp only [go_sem]
  refine awp_seq_k fun K7 hK7 => ?_
  refine awp_block ?_
  refine awp_seq_k fun K8 hK8 => ?_
  refine awp_regionL (by rfl) ?_
  try simp only [go_sem]
  refine ix_map k rfl (by omega) ?_
  try simp only [go_sem]
  refine hK8 _ _ _ (awp_keep [1, 3, 4] ?_)
  try clear hK8 K8
  try simp only [go_sem]
  refine awp_seq_k fun K9 hK9 => ?_
  refine awp_drawP (by kernel_rfl) (by rfl) (by kernel_rfl) (fun _ => true) (.early 0 (.early 1 (.early 2 (.early 3 (.early 4 (.early 5 (.early 6 (.early 7 (.early 8 (.early 9 (.early 10 (.late 11 (.early 12 (.early 13 (.early 14 (.early 15 (.early 16 (.early 17 (.early 18 (.early 19 (.early 20 (.early 21 (.early 22 (.early 23 (.early 24 (.early 25 (.early 26 (.early 27 (.early 28 (.early 29 (.early 30 (.early 31 (.early 32 (.early 33 (.early 34 (.early 35 (.early 36 (.early 37 (.early 38 (.early 39 (.early 40 .done))))))))))))))))))))))))))))))))))))))))) (by kernel_rfl) (fun _ _ _ _ => by simp only [go_sem, not_false_eq_true]) ?_
  try simp only [go_sem]
  refine gcall_p ?_ (by rfl) (by simp only [go_sem]; rfl) (fun hg => ⟨ref04_Flags_ok a.raws[k].typ, by simp only [hg, go_sem]⟩) ?_
  ·
   rfl
  try simp only [go_sem]
  repeat (refine Must.au ?_; try simp only [go_sem])
  refine gixE (Raw.cells (a.raws[k - 1]'(by omega))) (by rfl) (by rfl) (by simp only [go_sem]; rfl) (by simp only [go_sem]) (by decide) (fun hg => ?_) ?_
  ·
   skip
   simp only [Bool.and_eq_true, decide_eq_true_eq] at hg
   have hk0 := hg.2
   rw [w_i64 (by omega) (by omega), show ((k : Int) - 1).toNat = k - 1 by omega]
   exact ⟨by omega, by simp [rwl, Raw.cells, bytes, show k - 1 < a.raws.length by omega]⟩
  try simp only [go_sem]
  repeat (refine Must.au ?_; try simp only [go_sem])
  repeat (refine Must.au ?_; try simp only [go_sem])
  try simp (disch := omega) only [w_i64, w_u8, w_u16, w_u32, w_u64]
  refine hK9 _ _ _ (awp_keep [1, 3, 57] ?_)
  try clear hK9 K9
  try simp only [go_sem]
  refine awp_cond (by rfl) (fun hc1 => ?_) (fun hc1 => ?_)
  ·
   skip
   try simp only [decide_eq_true_eq, decide_eq_false_iff_not, Bool.not_eq_true', Bool.not_eq_false', Bool.and_eq_true, Bool.or_eq_true, Bool.or_eq_false_iff, Bool.and_eq_false_imp] at hc1
   refine awp_seq_k fun K10 hK10 => ?_
   refine awp_regionL (by rfl) ?_
   try simp only [go_sem]
   refine hK10 _ _ _ (awp_keep [2] ?_)
   try clear hK10 K10
   try simp only [go_sem]
   refine awp_ret ?_
   try simp only [go_sem]
   try clear hK10 K10
   try clear hK9 K9
   try clear hK8 K8
   try clear hK7 K7
   try clear hK6 K6
   try clear hK5 K5
   try clear hK4 K4
   try clear hK3 K3
   try clear hK2 K2
   try clear hK1 K1
   have hn : rawAt a.raws k = false := by
    rw [Bool.eq_false_iff, Ne, rawAt_iff hk2]
    by_cases hkn : flagsS a.raws[k].typ = 0 <;> simp [knownS, hkn] at hc1 ⊢ <;> omega
   refine ret_p (by simp) (by rfl) ?_ (by rfl)
   (try simp (disch := omega) only [w_i64, w_u8, w_u16, w_u32, w_u64]); simp only [go_sem] <;> (simp [rightS, rawsS, rawsOk_no hk2 hn])
  ·
   skip
   try simp only [decide_eq_true_eq, decide_eq_false_iff_not, Bool.not_eq_true', Bool.not_eq_false', Bool.and_eq_true, Bool.or_eq_true, Bool.or_eq_false_iff, Bool.and_eq_false_imp] at hc1
   refine awp_skip ?_
   try simp only [go_sem]
   refine hK7 _ _ _ (awp_keep [1, 3] ?_)
   try clear hK7 K7
   try simp only [go_sem]
   refine awp_regionL (by rfl) ?_
   try simp only [go_sem]
   try simp (disch := omega) only [w_i64, w_u8, w_u16, w_u32, w_u64]
   refine hK4 _ _ _ ⟨k + 1, [], ?_, ?_⟩
   ·
    (try simp (disch := omega) only [w_i64, w_u8, w_u16, w_u32, w_u64]); simp only [Lss, go_sem]
    (repeat' apply And.intro) <;> first | rfl | omega | trivial | (simp; done)
   ·
    exact ⟨⟨by omega, rawsOk_succ hok ((rawAt_iff hk2).2 (by cases hkn : knownS a.raws[k].typ <;> simp only [knownS] at hkn <;> simp at hkn <;> simp [hkn] at hc1 ⊢ <;> omega))⟩, by omega⟩
 ·
  skip
  try simp only [decide_eq_true_eq, decide_eq_false_iff_not, Bool.not_eq_true', Bool.not_eq_false', Bool.and_eq_true, Bool.or_eq_true, Bool.or_eq_false_iff, Bool.and_eq_false_imp] at hc0
  obtain rfl : k = a.raws.length := by omega
  refine awp_exit ?_
  try simp only [go_sem]
  refine hK2 _ _ _ (awp_keep [1] ?_)
  try clear hK2 K2
  try simp only [go_sem]
  refine awp_seq_k fun K11 hK11 => ?_
  refine awp_seq_k fun K12 hK12 => ?_
  refine awp_regionL (by rfl) ?_
  try simp only [go_sem]
  refine gcall_p ?_ (by rfl) (by simp only [go_sem]; rfl) (fun hg => ⟨ref03_Right_ok a.path, by simp only [hg, go_sem]⟩) ?_
  ·
   rfl
  try simp only [go_sem]
  repeat (refine Must.au ?_; try simp only [go_sem])
  repeat (refine Must.au ?_; try simp only [go_sem])
  refine hK12 _ _ _ (awp_keep [1, 83] ?_)
  try clear hK12 K12
  try simp only [go_sem]
  refine awp_cond (by rfl) (fun hc2 => ?_) (fun hc2 => ?_)
  ·
   skip
   try simp only [decide_eq_true_eq, decide_eq_false_iff_not, Bool.not_eq_true', Bool.not_eq_false', Bool.and_eq_true, Bool.or_eq_true, Bool.or_eq_false_iff, Bool.and_eq_false_imp] at hc2
   refine awp_seq_k fun K13 hK13 => ?_
   refine awp_regionL (by rfl) ?_
   try simp only [go_sem]
   refine hK13 _ _ _ (awp_keep [2] ?_)
   try clear hK13 K13
   try simp only [go_sem]
   refine awp_ret ?_
   try simp only [go_sem]
   try clear hK13 K13
   try clear hK12 K12
   try clear hK11 K11
   try clear hK10 K10
   try clear hK9 K9
   try clear hK8 K8
   try clear hK7 K7
   try clear hK6 K6
   try clear hK5 K5
   try clear hK4 K4
   try clear hK3 K3
   try clear hK2 K2
   try clear hK1 K1
   refine ret_p (by simp) (by rfl) ?_ (by rfl)
   (try simp (disch := omega) only [w_i64, w_u8, w_u16, w_u32, w_u64]); simp only [go_sem] <;> ((rcases hc2 with (((h | h) | h) | h) | h <;> simp [rightS, rawsS, h] <;> omega))
  ·
   skip
   try simp only [decide_eq_true_eq, decide_eq_false_iff_not, Bool.not_eq_true', Bool.not_eq_false', Bool.and_eq_true, Bool.or_eq_true, Bool.or_eq_false_iff, Bool.and_eq_false_imp] at hc2
   refine awp_skip ?_
   try simp only [go_sem]
   refine hK11 _ _ _ (awp_keep [1] ?_)
   try clear hK11 K11
   try simp only [go_sem]
   refine awp_seq_k fun K14 hK14 => ?_
   refine awp_seq_k fun K15 hK15 => ?_
   refine awp_regionL (by rfl) ?_
   try simp only [go_sem]
   repeat (refine Must.au ?_; try simp only [go_sem])
   refine hK15 _ _ _ (awp_keep [1, 101] ?_)
   try clear hK15 K15
   try simp only [go_sem]
   refine awp_cond (by rfl) (fun hc3 => ?_) (fun hc3 => ?_)
   ·
    skip
    try simp only [decide_eq_true_eq, decide_eq_false_iff_not, Bool.not_eq_true', Bool.not_eq_false', Bool.and_eq_true, Bool.or_eq_true, Bool.or_eq_false_iff, Bool.and_eq_false_imp] at hc3
    refine awp_seq_k fun K16 hK16 => ?_
    refine awp_regionL (by rfl) ?_
    try simp only [go_sem]
    refine hK16 _ _ _ (awp_keep [2] ?_)
    try clear hK16 K16
    try simp only [go_sem]
    refine awp_ret ?_
    try simp only [go_sem]
    try clear hK16 K16
    try clear hK15 K15
    try clear hK14 K14
    try clear hK13 K13
    try clear hK12 K12
    try clear hK11 K11
    try clear hK10 K10
    try clear hK9 K9
    try clear hK8 K8
    try clear hK7 K7
    try clear hK6 K6
    try clear hK5 K5
    try clear hK4 K4
    try clear hK3 K3
    try clear hK2 K2
    try clear hK1 K1
    refine ret_p (by simp) (by rfl) ?_ (by rfl)
    (try simp (disch := omega) only [w_i64, w_u8, w_u16, w_u32, w_u64]); simp only [go_sem] <;> ((rcases hc3 with ((h | h) | h) | h <;> simp [rightS, numberS] <;> intros <;> omega))
   ·
    skip
    try simp only [decide_eq_true_eq, decide_eq_false_iff_not, Bool.not_eq_true', Bool.not_eq_false', Bool.and_eq_true, Bool.or_eq_true, Bool.or_eq_false_iff, Bool.and_eq_false_imp] at hc3
    refine awp_skip ?_
    try simp only [go_sem]
    refine hK14 _ _ _ (awp_keep [1] ?_)
    try clear hK14 K14
    try simp only [go_sem]
    refine awp_seq_k fun K17 hK17 => ?_
    refine awp_regionL (by rfl) ?_
    try simp only [go_sem]
    repeat (refine Must.au ?_; try simp only [go_sem])
    refine hK17 _ _ _ (awp_keep [2] ?_)
    try clear hK17 K17
    try simp only [go_sem]
    refine awp_ret ?_
    try simp only [go_sem]
    try clear hK17 K17
    try clear hK16 K16
    try clear hK15 K15
    try clear hK14 K14
    try clear hK13 K13
    try clear hK12 K12
    try clear hK11 K11
    try clear hK10 K10
    try clear hK9 K9
    try clear hK8 K8
    try clear hK7 K7
    try clear hK6 K6
    try clear hK5 K5
    try clear hK4 K4
    try clear hK3 K3
    try clear hK2 K2
    try clear hK1 K1
    have hr : rawsOk a.raws = true := hok
    obtain ⟨⟨⟨⟨h1, h2⟩, h3⟩, h4⟩, h5⟩ := hc2
    obtain ⟨⟨⟨h6, h7⟩, h8⟩, h9⟩ := hc3
    have q1 : numberS a.med = true := by simp [numberS]; omega
    have q2 : numberS a.pref = true := by simp [numberS]; omega
    have q3 : a.comms.length ≤ 32 := by omega
    have q4 : a.raws.length ≤ 8 := by omega
    refine ret_p (by simp) (by rfl) ?_ (by rfl)
    (try simp (disch := omega) only [w_i64, w_u8, w_u16, w_u32, w_u64]); simp only [go_sem] <;> ((cases h : a.hasAggr <;> simp [rightS, rawsS, hr, h1, h2, h3, q1, q2, q3, q4, h]))
end

end Go.Abs
