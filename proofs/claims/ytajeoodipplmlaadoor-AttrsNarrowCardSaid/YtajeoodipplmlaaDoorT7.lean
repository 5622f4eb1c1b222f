/-
  ATTRIBUTES, 3: whether a path may be, whether attributes are small.
-/
import Derived.Test.YtajeoodipplmlaaDoorT6
set_option linter.all false
namespace Go.Abs
open Go Go.Proofs

section
attribute [local go_sem] segs u32s Seg.cells
set_option maxRecDepth 20000 in
set_option maxHeartbeats 8000000 in
theorem aspath_Right_ok (l : List Seg) : ACX Go.Proofs.Tryd.prog G0 27 [.l (segs l)] [] [] (.l (.bool (pathRight l))) [] [] := by
 refine acalls_intro Go.Proofs.Tryd.func27 rfl (by kernel_rfl) Go.Proofs.Tryd.ntmps27 Go.Proofs.Tryd.results27 (by simp) rfl rfl ?_
 try simp only [go_sem]
 refine awp_len 0 rfl fun hlen => ?_
 simp only [sgl_length] at hlen
 refine awp_seq_k fun K1 hK1 => ?_
 refine awp_regionL (by rfl) ?_
 try simp only [go_sem]
 refine hK1 _ _ _ (awp_keep [0] ?_)
 try clear hK1 K1
 try simp only [go_sem]
 refine awp_seq_k fun K2 hK2 => ?_
 refine awp_regionL (by rfl) ?_
 try simp only [go_sem]
 refine hK2 _ _ _ (awp_keep [0, 3] ?_)
 try clear hK2 K2
 try simp only [go_sem]
 refine awp_seq_k fun K3 hK3 => ?_
 refine awp_seq_k fun K4 hK4 => ?_
 refine awp_regionL (by rfl) ?_
 try simp only [go_sem]
 refine hK4 _ _ _ (awp_keep [0, 3, 6, 7, 8] ?_)
 try clear hK4 K4
 try simp only [go_sem]
 refine awp_block ?_
 refine awp_loopE (α := (Nat)) (fun (k : (Nat)) => k ≤ l.length ∧ (l.take k).all segOk = true ∧ 0 ≤ tot (l.take k) ∧ tot (l.take k) ≤ 64) (fun (k : (Nat)) => l.length - k) (fun (k : (Nat)) => [(3, .l (.int .i64 (tot (l.take k)))), (8, .l (.int .i64 (k : Int)))]) (fun (k : (Nat)) => []) (fun (k : (Nat)) => []) [0, 6, 7] 0 [] ?_ ?_ ?_
 ·
  simp only [Lss, go_sem]
  (repeat' apply And.intro) <;> first | rfl | omega | trivial | (simp; done)
 ·
  exact ⟨by omega, rfl, by simp [tot], by simp [tot]⟩
 rintro k ⟨hk, hok, ht0, ht⟩ K5 hK5
 try simp only [go_sem]
 refine awp_seq_k fun K6 hK6 => ?_
 refine awp_regionL (by rfl) ?_
 try simp only [go_sem]
 refine hK6 _ _ _ (awp_keep [0, 3, 6, 7, 8, 9] ?_)
 try clear hK6 K6
 try simp only [go_sem]
 refine awp_seq_k fun K7 hK7 => ?_
 refine awp_cond (by rfl) (fun hc0 => ?_) (fun hc0 => ?_)
 ·
  skip
  try simp only [decide_eq_true_eq, decide_eq_false_iff_not, Bool.not_eq_true', Bool.not_eq_false', Bool.and_eq_true, Bool.or_eq_true, Bool.or_eq_false_iff, Bool.and_eq_false_imp] at hc0
  have hk2 : k < l.length := by omega
  have hs := tot_take_succ l k hk2
  have hle := tot_take_le l (k + 1)
  refine awp_skip ?_
  try simp only [go_sem]
  refine hK7 _ _ _ (awp_keep [0, 3, 6, 7, 8] ?_)
  try clear hK7 K7
  try simp only [go_sem]
  refine awp_seq_k fun K8 hK8 => ?_
  refine awp_block ?_
  refine awp_seq_k fun K9 hK9 => ?_
  refine awp_regionL (by rfl) ?_
  try simp only [go_sem]
  refine ix_map k rfl (by omega) ?_
  try simp only [go_sem]
  refine hK9 _ _ _ (awp_keep [0, 3, 5, 6, 7, 8] ?_)
  try clear hK9 K9
  try simp only [go_sem]
  refine awp_seq_k fun K10 hK10 => ?_
  refine awp_seq_k fun K11 hK11 => ?_
  refine awp_regionL (by rfl) ?_
  try simp only [go_sem]
  repeat (refine Must.au ?_; try simp only [go_sem])
  refine hK11 _ _ _ (awp_keep [0, 3, 5, 6, 7, 8, 31] ?_)
  try clear hK11 K11
  try simp only [go_sem]
  refine awp_cond (by rfl) (fun hc1 => ?_) (fun hc1 => ?_)
  ·
   skip
   try simp only [decide_eq_true_eq, decide_eq_false_iff_not, Bool.not_eq_true', Bool.not_eq_false', Bool.and_eq_true, Bool.or_eq_true, Bool.or_eq_false_iff, Bool.and_eq_false_imp] at hc1
   refine awp_seq_k fun K12 hK12 => ?_
   refine awp_regionL (by rfl) ?_
   try simp only [go_sem]
   refine hK12 _ _ _ (awp_keep [2] ?_)
   try clear hK12 K12
   try simp only [go_sem]
   refine awp_ret ?_
   try simp only [go_sem]
   try clear hK12 K12
   try clear hK11 K11
   try clear hK10 K10
   try clear hK9 K9
   try clear hK8 K8
   try clear hK7 K7
   try clear hK6 K6
   try clear hK5 K5
   try clear hK4 K4
   try clear hK3 K3
   try clear hK2 K2
   try clear hK1 K1
   refine ret_p (by simp) (by rfl) ?_ (by rfl)
   (try simp (disch := omega) only [w_i64, w_u8, w_u16, w_u32, w_u64]); simp only [go_sem] <;> (simp [pathRight, all_false (p := segOk) hk2 (segOk_no (by omega))])
  ·
   skip
   try simp only [decide_eq_true_eq, decide_eq_false_iff_not, Bool.not_eq_true', Bool.not_eq_false', Bool.and_eq_true, Bool.or_eq_true, Bool.or_eq_false_iff, Bool.and_eq_false_imp] at hc1
   have hso : segOk l[k] = true := (segOk_iff _).2 (by omega)
   have hso2 := (segOk_iff _).1 hso
   refine awp_skip ?_
   try simp only [go_sem]
   refine hK10 _ _ _ (awp_keep [0, 3, 5, 6, 7, 8] ?_)
   try clear hK10 K10
   try simp only [go_sem]
   refine awp_seq_k fun K13 hK13 => ?_
   refine awp_regionL (by rfl) ?_
   try simp only [go_sem]
   try simp (disch := omega) only [w_i64, w_u8, w_u16, w_u32, w_u64]
   refine hK13 _ _ _ (awp_keep [0, 3, 6, 7, 8] ?_)
   try clear hK13 K13
   try simp only [go_sem]
   refine awp_seq_k fun K14 hK14 => ?_
   refine awp_regionL (by rfl) ?_
   try simp only [go_sem]
   refine hK14 _ _ _ (awp_keep [0, 3, 6, 7, 8, 38] ?_)
   try clear hK14 K14
   try simp only [go_sem]
   refine awp_cond (by rfl) (fun hc2 => ?_) (fun hc2 => ?_)
   ·
    skip
    try simp only [decide_eq_true_eq, decide_eq_false_iff_not, Bool.not_eq_true', Bool.not_eq_false', Bool.and_eq_true, Bool.or_eq_true, Bool.or_eq_false_iff, Bool.and_eq_false_imp] at hc2
    refine awp_seq_k fun K15 hK15 => ?_
    refine awp_regionL (by rfl) ?_
    try simp only [go_sem]
    refine hK15 _ _ _ (awp_keep [2] ?_)
    try clear hK15 K15
    try simp only [go_sem]
    refine awp_ret ?_
    try simp only [go_sem]
    try clear hK15 K15
    try clear hK14 K14
    try clear hK13 K13
    try clear hK12 K12
    try clear hK11 K11
    try clear hK10 K10
    try clear hK9 K9
    try clear hK8 K8
    try clear hK7 K7
    try clear hK6 K6
    try clear hK5 K5
    try clear hK4 K4
    try clear hK3 K3
    try clear hK2 K2
    try clear hK1 K1
    refine ret_p (by simp) (by rfl) ?_ (by rfl)
    (try simp (disch := omega) only [w_i64, w_u8, w_u16, w_u32, w_u64]); simp only [go_sem] <;> (simp [pathRight]; intros; omega)
   ·
    skip
    try simp only [decide_eq_true_eq, decide_eq_false_iff_not, Bool.not_eq_true', Bool.not_eq_false', Bool.and_eq_true, Bool.or_eq_true, Bool.or_eq_false_iff, Bool.and_eq_false_imp] at hc2
    refine awp_skip ?_
    try simp only [go_sem]
    refine hK8 _ _ _ (awp_keep [0, 3, 6, 7, 8] ?_)
    try clear hK8 K8
    try simp only [go_sem]
    refine awp_regionL (by rfl) ?_
    try simp only [go_sem]
    try simp (disch := omega) only [w_i64, w_u8, w_u16, w_u32, w_u64]
    refine hK5 _ _ _ ⟨k + 1, [], ?_, ?_⟩
    ·
     (try simp (disch := omega) only [w_i64, w_u8, w_u16, w_u32, w_u64]); simp only [Lss, go_sem]
     (repeat' apply And.intro) <;> first | rfl | omega | trivial | (simp; done)
    ·
     refine ⟨⟨?_, all_take_succ hok hk2 hso, ?_, ?_⟩, ?_⟩ <;> omega
 ·
  skip
  try simp only [decide_eq_true_eq, decide_eq_false_iff_not, Bool.not_eq_true', Bool.not_eq_false', Bool.and_eq_true, Bool.or_eq_true, Bool.or_eq_false_iff, Bool.and_eq_false_imp] at hc0
  obtain rfl : k = l.length := by omega
  simp only [List.take_length] at hok ht ht0
  refine awp_exit ?_
  try simp only [go_sem]
  refine hK3 _ _ _ (awp_keep [0] ?_)
  try clear hK3 K3
  try simp only [go_sem]
  refine awp_seq_k fun K16 hK16 => ?_
  refine awp_regionL (by rfl) ?_
  try simp only [go_sem]
  refine hK16 _ _ _ (awp_keep [2] ?_)
  try clear hK16 K16
  try simp only [go_sem]
  refine awp_ret ?_
  try simp only [go_sem]
  try clear hK16 K16
  try clear hK15 K15
  try clear hK14 K14
  try clear hK13 K13
  try clear hK12 K12
  try clear hK11 K11
  try clear hK10 K10
  try clear hK9 K9
  try clear hK8 K8
  try clear hK7 K7
  try clear hK6 K6
  try clear hK5 K5
  try clear hK4 K4
  try clear hK3 K3
  try clear hK2 K2
  try clear hK1 K1
  refine ret_p (by simp) (by rfl) ?_ (by rfl)
  (try simp (disch := omega) only [w_i64, w_u8, w_u16, w_u32, w_u64]); simp only [go_sem] <;> (simp only [pathRight, hok, Bool.true_and]; rw [Bool.eq_iff_iff]; simp only [Bool.and_eq_true, decide_eq_true_eq]; omega)
end

def rawFew (r : Raw) : Bool := decide (r.data.length ≤ 400)
def few4 (a : Attrs) : Bool := few3 a.path && decide (a.comms.length ≤ 60) && decide (a.raws.length ≤ 12) && a.raws.all rawFew

section
attribute [local go_sem] Attrs.cells segs u32s raws Raw.cells bytes
set_option maxRecDepth 20000 in
set_option maxHeartbeats 8000000 in
theorem law04_Few_ok (a : Attrs) : ACX Go.Proofs.Tryd.prog G0 8 [.agg a.cells] [] [] (.l (.bool (few4 a))) [] [] := by
 refine acalls_intro Go.Proofs.Tryd.func8 rfl (by kernel_rfl) Go.Proofs.Tryd.ntmps8 Go.Proofs.Tryd.results8 (by simp) rfl rfl ?_
 try simp only [go_sem]
 refine awp_seq_k fun K1 hK1 => ?_
 refine awp_regionL (by rfl) ?_
 try simp only [go_sem]
 refine hK1 _ _ _ (awp_keep [1] ?_)
 try clear hK1 K1
 try simp only [go_sem]
 refine awp_seq_k fun K2 hK2 => ?_
 refine awp_seq_k fun K3 hK3 => ?_
 refine awp_regionL (by rfl) ?_
 try simp only [go_sem]
 refine acall_pa (law03_Few_ok a.path) ?_
 try simp only [go_sem]
 repeat (refine Must.au ?_; try simp only [go_sem])
 repeat (refine Must.au ?_; try simp only [go_sem])
 refine hK3 _ _ _ (awp_keep [1, 19] ?_)
 try clear hK3 K3
 try simp only [go_sem]
 refine awp_cond (by rfl) (fun hc0 => ?_) (fun hc0 => ?_)
 ·
  skip
  try simp only [decide_eq_true_eq, decide_eq_false_iff_not, Bool.not_eq_true', Bool.not_eq_false', Bool.and_eq_true, Bool.or_eq_true, Bool.or_eq_false_iff, Bool.and_eq_false_imp] at hc0
  refine awp_seq_k fun K4 hK4 => ?_
  refine awp_regionL (by rfl) ?_
  try simp only [go_sem]
  refine hK4 _ _ _ (awp_keep [2] ?_)
  try clear hK4 K4
  try simp only [go_sem]
  refine awp_ret ?_
  try simp only [go_sem]
  try clear hK4 K4
  try clear hK3 K3
  try clear hK2 K2
  try clear hK1 K1
  refine ret_p (by simp) (by rfl) ?_ (by rfl)
  (try simp (disch := omega) only [w_i64, w_u8, w_u16, w_u32, w_u64]); simp only [go_sem] <;> ((rcases hc0 with (h | h) | h <;> simp [few4] <;> intros <;> first | omega | simp_all))
 ·
  skip
  try simp only [decide_eq_true_eq, decide_eq_false_iff_not, Bool.not_eq_true', Bool.not_eq_false', Bool.and_eq_true, Bool.or_eq_true, Bool.or_eq_false_iff, Bool.and_eq_false_imp] at hc0
  refine awp_skip ?_
  try simp only [go_sem]
  refine hK2 _ _ _ (awp_keep [1] ?_)
  try clear hK2 K2
  try simp only [go_sem]
  refine awp_seq_k fun K5 hK5 => ?_
  refine awp_seq_k fun K6 hK6 => ?_
  refine awp_regionL (by rfl) ?_
  try simp only [go_sem]
  refine hK6 _ _ _ (awp_keep [1, 3] ?_)
  try clear hK6 K6
  try simp only [go_sem]
  refine awp_block ?_
  refine awp_loopE (α := (Nat)) (fun (k : (Nat)) => k ≤ a.raws.length ∧ (a.raws.take k).all rawFew = true) (fun (k : (Nat)) => a.raws.length - k) (fun (k : (Nat)) => [(3, .l (.int .i64 (k : Int)))]) (fun (k : (Nat)) => [⟨27, a.cells⟩]) (fun (k : (Nat)) => []) [1] 0 [] ?_ ?_ ?_
  ·
   simp only [Lss, go_sem]
   (repeat' apply And.intro) <;> first | rfl | omega | trivial | (simp; done)
  ·
   exact ⟨by omega, rfl⟩
  rintro k ⟨hk, hok⟩ K7 hK7
  try simp only [go_sem]
  refine awp_seq_k fun K8 hK8 => ?_
  refine awp_seq_k fun K9 hK9 => ?_
  refine awp_regionL (by rfl) ?_
  try simp only [go_sem]
  refine hK9 _ _ _ (awp_keep [1, 3, 24] ?_)
  try clear hK9 K9
  try simp only [go_sem]
  refine awp_cond (by rfl) (fun hc1 => ?_) (fun hc1 => ?_)
  ·
   skip
   try simp only [decide_eq_true_eq, decide_eq_false_iff_not, Bool.not_eq_true', Bool.not_eq_false', Bool.and_eq_true, Bool.or_eq_true, Bool.or_eq_false_iff, Bool.and_eq_false_imp] at hc1
   have hk2 : k < a.raws.length := by omega
   refine awp_skip ?_
   try simp only [go_sem]
   refine hK8 _ _ _ (awp_keep [1, 3] ?_)
   try clear hK8 K8
   try simp only [go_sem]
   refine awp_seq_k fun K10 hK10 => ?_
   refine awp_block ?_
   refine awp_seq_k fun K11 hK11 => ?_
   refine awp_regionL (by rfl) ?_
   try simp only [go_sem]
   refine ix_map k rfl (by omega) ?_
   try simp only [go_sem]
   refine hK11 _ _ _ (awp_keep [1, 3, 34] ?_)
   try clear hK11 K11
   try simp only [go_sem]
   refine awp_cond (by rfl) (fun hc2 => ?_) (fun hc2 => ?_)
   ·
    skip
    try simp only [decide_eq_true_eq, decide_eq_false_iff_not, Bool.not_eq_true', Bool.not_eq_false', Bool.and_eq_true, Bool.or_eq_true, Bool.or_eq_false_iff, Bool.and_eq_false_imp] at hc2
    refine awp_seq_k fun K12 hK12 => ?_
    refine awp_regionL (by rfl) ?_
    try simp only [go_sem]
    refine hK12 _ _ _ (awp_keep [2] ?_)
    try clear hK12 K12
    try simp only [go_sem]
    refine awp_ret ?_
    try simp only [go_sem]
    try clear hK12 K12
    try clear hK11 K11
    try clear hK10 K10
    try clear hK9 K9
    try clear hK8 K8
    try clear hK7 K7
    try clear hK6 K6
    try clear hK5 K5
    try clear hK4 K4
    try clear hK3 K3
    try clear hK2 K2
    try clear hK1 K1
    refine ret_p (by simp) (by rfl) ?_ (by rfl)
    (try simp (disch := omega) only [w_i64, w_u8, w_u16, w_u32, w_u64]); simp only [go_sem] <;> (simp [few4, all_false (p := rawFew) hk2 (by simp only [rawFew, decide_eq_false_iff_not]; omega)])
   ·
    skip
    try simp only [decide_eq_true_eq, decide_eq_false_iff_not, Bool.not_eq_true', Bool.not_eq_false', Bool.and_eq_true, Bool.or_eq_true, Bool.or_eq_false_iff, Bool.and_eq_false_imp] at hc2
    refine awp_skip ?_
    try simp only [go_sem]
    refine hK10 _ _ _ (awp_keep [1, 3] ?_)
    try clear hK10 K10
    try simp only [go_sem]
    refine awp_regionL (by rfl) ?_
    try simp only [go_sem]
    try simp (disch := omega) only [w_i64, w_u8, w_u16, w_u32, w_u64]
    refine hK7 _ _ _ ⟨k + 1, [], ?_, ?_⟩
    ·
     (try simp (disch := omega) only [w_i64, w_u8, w_u16, w_u32, w_u64]); simp only [Lss, go_sem]
     (repeat' apply And.intro) <;> first | rfl | omega | trivial | (simp; done)
    ·
     exact ⟨⟨by omega, all_take_succ hok hk2 (by simp only [rawFew, decide_eq_true_eq]; omega)⟩, by omega⟩
  ·
   skip
   try simp only [decide_eq_true_eq, decide_eq_false_iff_not, Bool.not_eq_true', Bool.not_eq_false', Bool.and_eq_true, Bool.or_eq_true, Bool.or_eq_false_iff, Bool.and_eq_false_imp] at hc1
   obtain rfl : k = a.raws.length := by omega
   simp only [List.take_length] at hok
   refine awp_exit ?_
   try simp only [go_sem]
   refine hK5 _ _ _ (awp_keep [] ?_)
   try clear hK5 K5
   try simp only [go_sem]
   refine awp_seq_k fun K13 hK13 => ?_
   refine awp_regionL (by rfl) ?_
   try simp only [go_sem]
   refine hK13 _ _ _ (awp_keep [2] ?_)
   try clear hK13 K13
   try simp only [go_sem]
   refine awp_ret ?_
   try simp only [go_sem]
   try clear hK13 K13
   try clear hK12 K12
   try clear hK11 K11
   try clear hK10 K10
   try clear hK9 K9
   try clear hK8 K8
   try clear hK7 K7
   try clear hK6 K6
   try clear hK5 K5
   try clear hK4 K4
   try clear hK3 K3
   try clear hK2 K2
   try clear hK1 K1
   refine ret_p (by simp) (by rfl) ?_ (by rfl)
   (try simp (disch := omega) only [w_i64, w_u8, w_u16, w_u32, w_u64]); simp only [go_sem] <;> (simp only [few4, hok]; simp [hc0]; omega)
end

end Go.Abs
