/-
  WHETHER TWO LISTS ARE THE SAME: of numbers, bytes, parts of a path; all numbers of a path; whether a path is short.
-/
import Derived.Test.YtajeoodipplmlaaDoorT3
set_option linter.all false
namespace Go.Abs
open Go Go.Proofs

section
attribute [local go_sem] u32s
set_option maxRecDepth 20000 in
set_option maxHeartbeats 8000000 in
theorem Equal_u32_ok (a b : List Int) : ACX Go.Proofs.Tryd.prog G0 34 [.l (u32s a), .l (u32s b)] [] [] (.l (.bool (decide (a = b)))) [] [] := by
 refine acalls_intro Go.Proofs.Tryd.func34 rfl (by kernel_rfl) Go.Proofs.Tryd.ntmps34 Go.Proofs.Tryd.results34 (by simp) rfl rfl ?_
 try simp only [go_sem]
 refine awp_seq_k fun K1 hK1 => ?_
 refine awp_regionL (by rfl) ?_
 try simp only [go_sem]
 refine hK1 _ _ _ (awp_keep [0, 1] ?_)
 try clear hK1 K1
 try simp only [go_sem]
 refine awp_seq_k fun K2 hK2 => ?_
 refine awp_seq_k fun K3 hK3 => ?_
 refine awp_regionL (by rfl) ?_
 try simp only [go_sem]
 refine hK3 _ _ _ (awp_keep [0, 1, 10] ?_)
 try clear hK3 K3
 try simp only [go_sem]
 refine awp_cond (by rfl) (fun hc0 => ?_) (fun hc0 => ?_)
 ·
  skip
  try simp only [decide_eq_true_eq, decide_eq_false_iff_not, Bool.not_eq_true', Bool.not_eq_false', Bool.and_eq_true, Bool.or_eq_true, Bool.or_eq_false_iff, Bool.and_eq_false_imp] at hc0
  refine awp_seq_k fun K4 hK4 => ?_
  refine awp_regionL (by rfl) ?_
  try simp only [go_sem]
  refine hK4 _ _ _ (awp_keep [4] ?_)
  try clear hK4 K4
  try simp only [go_sem]
  refine awp_ret ?_
  try simp only [go_sem]
  try clear hK4 K4
  try clear hK3 K3
  try clear hK2 K2
  try clear hK1 K1
  refine ret_p (by simp) (by rfl) ?_ (by rfl)
  (try simp (disch := omega) only [w_i64, w_u8, w_u16, w_u32, w_u64]); simp only [go_sem] <;> (simp [ne_of_len hc0])
 ·
  skip
  try simp only [decide_eq_true_eq, decide_eq_false_iff_not, Bool.not_eq_true', Bool.not_eq_false', Bool.and_eq_true, Bool.or_eq_true, Bool.or_eq_false_iff, Bool.and_eq_false_imp] at hc0
  refine awp_len 0 rfl fun hlen => ?_
  simp only [ul_length, bl_length, sgl_length] at hlen
  refine awp_skip ?_
  try simp only [go_sem]
  refine hK2 _ _ _ (awp_keep [0, 1] ?_)
  try clear hK2 K2
  try simp only [go_sem]
  refine awp_seq_k fun K5 hK5 => ?_
  refine awp_seq_k fun K6 hK6 => ?_
  refine awp_regionL (by rfl) ?_
  try simp only [go_sem]
  refine hK6 _ _ _ (awp_keep [0, 1, 12, 13] ?_)
  try clear hK6 K6
  try simp only [go_sem]
  refine awp_block ?_
  refine awp_loopE (α := (Nat)) (fun (k : (Nat)) => k ≤ a.length ∧ a.take k = b.take k) (fun (k : (Nat)) => a.length - k) (fun (k : (Nat)) => [(13, .l (.int .i64 (k : Int)))]) (fun (k : (Nat)) => []) (fun (k : (Nat)) => []) [0, 1, 12] 0 [] ?_ ?_ ?_
  ·
   simp only [Lss, go_sem]
   (repeat' apply And.intro) <;> first | rfl | omega | trivial | (simp; done)
  ·
   exact ⟨by omega, rfl⟩
  rintro k ⟨hk, he⟩ K7 hK7
  try simp only [go_sem]
  refine awp_seq_k fun K8 hK8 => ?_
  refine awp_regionL (by rfl) ?_
  try simp only [go_sem]
  refine hK8 _ _ _ (awp_keep [0, 1, 12, 13, 14] ?_)
  try clear hK8 K8
  try simp only [go_sem]
  refine awp_seq_k fun K9 hK9 => ?_
  refine awp_cond (by rfl) (fun hc1 => ?_) (fun hc1 => ?_)
  ·
   skip
   try simp only [decide_eq_true_eq, decide_eq_false_iff_not, Bool.not_eq_true', Bool.not_eq_false', Bool.and_eq_true, Bool.or_eq_true, Bool.or_eq_false_iff, Bool.and_eq_false_imp] at hc1
   have hk2 : k < a.length := by omega
   have hk3 : k < b.length := by omega
   refine awp_skip ?_
   try simp only [go_sem]
   refine hK9 _ _ _ (awp_keep [0, 1, 12, 13] ?_)
   try clear hK9 K9
   try simp only [go_sem]
   refine awp_seq_k fun K10 hK10 => ?_
   refine awp_block ?_
   refine awp_seq_k fun K11 hK11 => ?_
   refine awp_regionL (by rfl) ?_
   try simp only [go_sem]
   refine hK11 _ _ _ (awp_keep [0, 1, 5, 12, 13] ?_)
   try clear hK11 K11
   try simp only [go_sem]
   refine awp_seq_k fun K12 hK12 => ?_
   refine awp_drawP (by kernel_rfl) (by rfl) (by kernel_rfl) (fun _ => true) (.early 0 (.early 1 (.early 2 (.early 3 (.early 4 (.early 5 (.early 6 (.early 7 (.early 8 .done))))))))) (by kernel_rfl) (fun _ _ _ _ => by simp only [go_sem, not_false_eq_true]) ?_
   try simp only [go_sem]
   refine ix_map k rfl (by omega) ?_
   try simp only [go_sem]
   refine ix_map k rfl (by omega) ?_
   try simp only [go_sem]
   refine hK12 _ _ _ (awp_keep [0, 1, 12, 13, 24] ?_)
   try clear hK12 K12
   try simp only [go_sem]
   refine awp_cond (by rfl) (fun hc2 => ?_) (fun hc2 => ?_)
   ·
    skip
    try simp only [decide_eq_true_eq, decide_eq_false_iff_not, Bool.not_eq_true', Bool.not_eq_false', Bool.and_eq_true, Bool.or_eq_true, Bool.or_eq_false_iff, Bool.and_eq_false_imp] at hc2
    refine awp_seq_k fun K13 hK13 => ?_
    refine awp_regionL (by rfl) ?_
    try simp only [go_sem]
    refine hK13 _ _ _ (awp_keep [4] ?_)
    try clear hK13 K13
    try simp only [go_sem]
    refine awp_ret ?_
    try simp only [go_sem]
    try clear hK13 K13
    try clear hK12 K12
    try clear hK11 K11
    try clear hK10 K10
    try clear hK9 K9
    try clear hK8 K8
    try clear hK7 K7
    try clear hK6 K6
    try clear hK5 K5
    try clear hK4 K4
    try clear hK3 K3
    try clear hK2 K2
    try clear hK1 K1
    refine ret_p (by simp) (by rfl) ?_ (by rfl)
    (try simp (disch := omega) only [w_i64, w_u8, w_u16, w_u32, w_u64]); simp only [go_sem] <;> (simp [ne_of_get hk2 hk3 (by assumption)])
   ·
    skip
    try simp only [decide_eq_true_eq, decide_eq_false_iff_not, Bool.not_eq_true', Bool.not_eq_false', Bool.and_eq_true, Bool.or_eq_true, Bool.or_eq_false_iff, Bool.and_eq_false_imp] at hc2
    refine awp_skip ?_
    try simp only [go_sem]
    refine hK10 _ _ _ (awp_keep [0, 1, 12, 13] ?_)
    try clear hK10 K10
    try simp only [go_sem]
    refine awp_regionL (by rfl) ?_
    try simp only [go_sem]
    try simp (disch := omega) only [w_i64, w_u8, w_u16, w_u32, w_u64]
    refine hK7 _ _ _ ⟨k + 1, [], ?_, ?_⟩
    ·
     (try simp (disch := omega) only [w_i64, w_u8, w_u16, w_u32, w_u64]); simp only [Lss, go_sem]
     (repeat' apply And.intro) <;> first | rfl | omega | trivial | (simp; done)
    ·
     exact ⟨⟨by omega, take_eq_succ he hk2 hk3 (by simpa using hc2)⟩, by omega⟩
  ·
   skip
   try simp only [decide_eq_true_eq, decide_eq_false_iff_not, Bool.not_eq_true', Bool.not_eq_false', Bool.and_eq_true, Bool.or_eq_true, Bool.or_eq_false_iff, Bool.and_eq_false_imp] at hc1
   refine awp_exit ?_
   try simp only [go_sem]
   refine hK5 _ _ _ (awp_keep [] ?_)
   try clear hK5 K5
   try simp only [go_sem]
   refine awp_seq_k fun K14 hK14 => ?_
   refine awp_regionL (by rfl) ?_
   try simp only [go_sem]
   refine hK14 _ _ _ (awp_keep [4] ?_)
   try clear hK14 K14
   try simp only [go_sem]
   refine awp_ret ?_
   try simp only [go_sem]
   try clear hK14 K14
   try clear hK13 K13
   try clear hK12 K12
   try clear hK11 K11
   try clear hK10 K10
   try clear hK9 K9
   try clear hK8 K8
   try clear hK7 K7
   try clear hK6 K6
   try clear hK5 K5
   try clear hK4 K4
   try clear hK3 K3
   try clear hK2 K2
   try clear hK1 K1
   refine ret_p (by simp) (by rfl) ?_ (by rfl)
   (try simp (disch := omega) only [w_i64, w_u8, w_u16, w_u32, w_u64]); simp only [go_sem] <;> (simp [eq_of_take he (by omega) (by omega)])
end

section
attribute [local go_sem] bytes
set_option maxRecDepth 20000 in
set_option maxHeartbeats 8000000 in
theorem Equal_u8_ok (a b : List Int) : ACX Go.Proofs.Tryd.prog G0 36 [.l (bytes a), .l (bytes b)] [] [] (.l (.bool (decide (a = b)))) [] [] := by
 refine acalls_intro Go.Proofs.Tryd.func36 rfl (by kernel_rfl) Go.Proofs.Tryd.ntmps36 Go.Proofs.Tryd.results36 (by simp) rfl rfl ?_
 try simp only [go_sem]
 refine awp_seq_k fun K1 hK1 => ?_
 refine awp_regionL (by rfl) ?_
 try simp only [go_sem]
 refine hK1 _ _ _ (awp_keep [0, 1] ?_)
 try clear hK1 K1
 try simp only [go_sem]
 refine awp_seq_k fun K2 hK2 => ?_
 refine awp_seq_k fun K3 hK3 => ?_
 refine awp_regionL (by rfl) ?_
 try simp only [go_sem]
 refine hK3 _ _ _ (awp_keep [0, 1, 10] ?_)
 try clear hK3 K3
 try simp only [go_sem]
 refine awp_cond (by rfl) (fun hc0 => ?_) (fun hc0 => ?_)
 ·
  skip
  try simp only [decide_eq_true_eq, decide_eq_false_iff_not, Bool.not_eq_true', Bool.not_eq_false', Bool.and_eq_true, Bool.or_eq_true, Bool.or_eq_false_iff, Bool.and_eq_false_imp] at hc0
  refine awp_seq_k fun K4 hK4 => ?_
  refine awp_regionL (by rfl) ?_
  try simp only [go_sem]
  refine hK4 _ _ _ (awp_keep [4] ?_)
  try clear hK4 K4
  try simp only [go_sem]
  refine awp_ret ?_
  try simp only [go_sem]
  try clear hK4 K4
  try clear hK3 K3
  try clear hK2 K2
  try clear hK1 K1
  refine ret_p (by simp) (by rfl) ?_ (by rfl)
  (try simp (disch := omega) only [w_i64, w_u8, w_u16, w_u32, w_u64]); simp only [go_sem] <;> (simp [ne_of_len hc0])
 ·
  skip
  try simp only [decide_eq_true_eq, decide_eq_false_iff_not, Bool.not_eq_true', Bool.not_eq_false', Bool.and_eq_true, Bool.or_eq_true, Bool.or_eq_false_iff, Bool.and_eq_false_imp] at hc0
  refine awp_len 0 rfl fun hlen => ?_
  simp only [ul_length, bl_length, sgl_length] at hlen
  refine awp_skip ?_
  try simp only [go_sem]
  refine hK2 _ _ _ (awp_keep [0, 1] ?_)
  try clear hK2 K2
  try simp only [go_sem]
  refine awp_seq_k fun K5 hK5 => ?_
  refine awp_seq_k fun K6 hK6 => ?_
  refine awp_regionL (by rfl) ?_
  try simp only [go_sem]
  refine hK6 _ _ _ (awp_keep [0, 1, 12, 13] ?_)
  try clear hK6 K6
  try simp only [go_sem]
  refine awp_block ?_
  refine awp_loopE (α := (Nat)) (fun (k : (Nat)) => k ≤ a.length ∧ a.take k = b.take k) (fun (k : (Nat)) => a.length - k) (fun (k : (Nat)) => [(13, .l (.int .i64 (k : Int)))]) (fun (k : (Nat)) => []) (fun (k : (Nat)) => []) [0, 1, 12] 0 [] ?_ ?_ ?_
  ·
   simp only [Lss, go_sem]
   (repeat' apply And.intro) <;> first | rfl | omega | trivial | (simp; done)
  ·
   exact ⟨by omega, rfl⟩
  rintro k ⟨hk, he⟩ K7 hK7
  try simp only [go_sem]
  refine awp_seq_k fun K8 hK8 => ?_
  refine awp_regionL (by rfl) ?_
  try simp only [go_sem]
  refine hK8 _ _ _ (awp_keep [0, 1, 12, 13, 14] ?_)
  try clear hK8 K8
  try simp only [go_sem]
  refine awp_seq_k fun K9 hK9 => ?_
  refine awp_cond (by rfl) (fun hc1 => ?_) (fun hc1 => ?_)
  ·
   skip
   try simp only [decide_eq_true_eq, decide_eq_false_iff_not, Bool.not_eq_true', Bool.not_eq_false', Bool.and_eq_true, Bool.or_eq_true, Bool.or_eq_false_iff, Bool.and_eq_false_imp] at hc1
   have hk2 : k < a.length := by omega
   have hk3 : k < b.length := by omega
   refine awp_skip ?_
   try simp only [go_sem]
   refine hK9 _ _ _ (awp_keep [0, 1, 12, 13] ?_)
   try clear hK9 K9
   try simp only [go_sem]
   refine awp_seq_k fun K10 hK10 => ?_
   refine awp_block ?_
   refine awp_seq_k fun K11 hK11 => ?_
   refine awp_regionL (by rfl) ?_
   try simp only [go_sem]
   refine hK11 _ _ _ (awp_keep [0, 1, 5, 12, 13] ?_)
   try clear hK11 K11
   try simp only [go_sem]
   refine awp_seq_k fun K12 hK12 => ?_
   refine awp_drawP (by kernel_rfl) (by rfl) (by kernel_rfl) (fun _ => true) (.early 0 (.early 1 (.early 2 (.early 3 (.early 4 (.early 5 (.early 6 (.early 7 (.early 8 .done))))))))) (by kernel_rfl) (fun _ _ _ _ => by simp only [go_sem, not_false_eq_true]) ?_
   try simp only [go_sem]
   refine ix_map k rfl (by omega) ?_
   try simp only [go_sem]
   refine ix_map k rfl (by omega) ?_
   try simp only [go_sem]
   refine hK12 _ _ _ (awp_keep [0, 1, 12, 13, 24] ?_)
   try clear hK12 K12
   try simp only [go_sem]
   refine awp_cond (by rfl) (fun hc2 => ?_) (fun hc2 => ?_)
   ·
    skip
    try simp only [decide_eq_true_eq, decide_eq_false_iff_not, Bool.not_eq_true', Bool.not_eq_false', Bool.and_eq_true, Bool.or_eq_true, Bool.or_eq_false_iff, Bool.and_eq_false_imp] at hc2
    refine awp_seq_k fun K13 hK13 => ?_
    refine awp_regionL (by rfl) ?_
    try simp only [go_sem]
    refine hK13 _ _ _ (awp_keep [4] ?_)
    try clear hK13 K13
    try simp only [go_sem]
    refine awp_ret ?_
    try simp only [go_sem]
    try clear hK13 K13
    try clear hK12 K12
    try clear hK11 K11
    try clear hK10 K10
    try clear hK9 K9
    try clear hK8 K8
    try clear hK7 K7
    try clear hK6 K6
    try clear hK5 K5
    try clear hK4 K4
    try clear hK3 K3
    try clear hK2 K2
    try clear hK1 K1
    refine ret_p (by simp) (by rfl) ?_ (by rfl)
    (try simp (disch := omega) only [w_i64, w_u8, w_u16, w_u32, w_u64]); simp only [go_sem] <;> (simp [ne_of_get hk2 hk3 (by assumption)])
   ·
    skip
    try simp only [decide_eq_true_eq, decide_eq_false_iff_not, Bool.not_eq_true', Bool.not_eq_false', Bool.and_eq_true, Bool.or_eq_true, Bool.or_eq_false_iff, Bool.and_eq_false_imp] at hc2
    refine awp_skip ?_
    try simp only [go_sem]
    refine hK10 _ _ _ (awp_keep [0, 1, 12, 13] ?_)
    try clear hK10 K10
    try simp only [go_sem]
    refine awp_regionL (by rfl) ?_
    try simp only [go_sem]
    try simp (disch := omega) only [w_i64, w_u8, w_u16, w_u32, w_u64]
    refine hK7 _ _ _ ⟨k + 1, [], ?_, ?_⟩
    ·
     (try simp (disch := omega) only [w_i64, w_u8, w_u16, w_u32, w_u64]); simp only [Lss, go_sem]
     (repeat' apply And.intro) <;> first | rfl | omega | trivial | (simp; done)
    ·
     exact ⟨⟨by omega, take_eq_succ he hk2 hk3 (by simpa using hc2)⟩, by omega⟩
  ·
   skip
   try simp only [decide_eq_true_eq, decide_eq_false_iff_not, Bool.not_eq_true', Bool.not_eq_false', Bool.and_eq_true, Bool.or_eq_true, Bool.or_eq_false_iff, Bool.and_eq_false_imp] at hc1
   refine awp_exit ?_
   try simp only [go_sem]
   refine hK5 _ _ _ (awp_keep [] ?_)
   try clear hK5 K5
   try simp only [go_sem]
   refine awp_seq_k fun K14 hK14 => ?_
   refine awp_regionL (by rfl) ?_
   try simp only [go_sem]
   refine hK14 _ _ _ (awp_keep [4] ?_)
   try clear hK14 K14
   try simp only [go_sem]
   refine awp_ret ?_
   try simp only [go_sem]
   try clear hK14 K14
   try clear hK13 K13
   try clear hK12 K12
   try clear hK11 K11
   try clear hK10 K10
   try clear hK9 K9
   try clear hK8 K8
   try clear hK7 K7
   try clear hK6 K6
   try clear hK5 K5
   try clear hK4 K4
   try clear hK3 K3
   try clear hK2 K2
   try clear hK1 K1
   refine ret_p (by simp) (by rfl) ?_ (by rfl)
   (try simp (disch := omega) only [w_i64, w_u8, w_u16, w_u32, w_u64]); simp only [go_sem] <;> (simp [eq_of_take he (by omega) (by omega)])
end

section
attribute [local go_sem] u32s
set_option maxRecDepth 20000 in
set_option maxHeartbeats 8000000 in
theorem ref03_Nums_ok (a b : List Int) : ACX Go.Proofs.Tryd.prog G0 32 [.l (u32s a), .l (u32s b)] [] [] (.l (.bool (decide (a = b)))) [] [] := by
 refine acalls_intro Go.Proofs.Tryd.func32 rfl (by kernel_rfl) Go.Proofs.Tryd.ntmps32 Go.Proofs.Tryd.results32 (by simp) rfl rfl ?_
 try simp only [go_sem]
 refine awp_seq_k fun K1 hK1 => ?_
 refine awp_regionL (by rfl) ?_
 try simp only [go_sem]
 refine hK1 _ _ _ (awp_keep [0, 1] ?_)
 try clear hK1 K1
 try simp only [go_sem]
 refine awp_seq_k fun K2 hK2 => ?_
 refine awp_seq_k fun K3 hK3 => ?_
 refine awp_regionL (by rfl) ?_
 try simp only [go_sem]
 refine hK3 _ _ _ (awp_keep [0, 1, 10] ?_)
 try clear hK3 K3
 try simp only [go_sem]
 refine awp_cond (by rfl) (fun hc0 => ?_) (fun hc0 => ?_)
 ·
  skip
  try simp only [decide_eq_true_eq, decide_eq_false_iff_not, Bool.not_eq_true', Bool.not_eq_false', Bool.and_eq_true, Bool.or_eq_true, Bool.or_eq_false_iff, Bool.and_eq_false_imp] at hc0
  refine awp_seq_k fun K4 hK4 => ?_
  refine awp_regionL (by rfl) ?_
  try simp only [go_sem]
  refine hK4 _ _ _ (awp_keep [4] ?_)
  try clear hK4 K4
  try simp only [go_sem]
  refine awp_ret ?_
  try simp only [go_sem]
  try clear hK4 K4
  try clear hK3 K3
  try clear hK2 K2
  try clear hK1 K1
  refine ret_p (by simp) (by rfl) ?_ (by rfl)
  (try simp (disch := omega) only [w_i64, w_u8, w_u16, w_u32, w_u64]); simp only [go_sem] <;> (simp [ne_of_len hc0])
 ·
  skip
  try simp only [decide_eq_true_eq, decide_eq_false_iff_not, Bool.not_eq_true', Bool.not_eq_false', Bool.and_eq_true, Bool.or_eq_true, Bool.or_eq_false_iff, Bool.and_eq_false_imp] at hc0
  refine awp_len 0 rfl fun hlen => ?_
  simp only [ul_length, bl_length, sgl_length] at hlen
  refine awp_skip ?_
  try simp only [go_sem]
  refine hK2 _ _ _ (awp_keep [0, 1] ?_)
  try clear hK2 K2
  try simp only [go_sem]
  refine awp_seq_k fun K5 hK5 => ?_
  refine awp_seq_k fun K6 hK6 => ?_
  refine awp_regionL (by rfl) ?_
  try simp only [go_sem]
  refine hK6 _ _ _ (awp_keep [0, 1, 5] ?_)
  try clear hK6 K6
  try simp only [go_sem]
  refine awp_block ?_
  refine awp_loopE (α := (Nat)) (fun (k : (Nat)) => k ≤ a.length ∧ a.take k = b.take k) (fun (k : (Nat)) => a.length - k) (fun (k : (Nat)) => [(5, .l (.int .i64 (k : Int)))]) (fun (k : (Nat)) => []) (fun (k : (Nat)) => []) [0, 1] 0 [] ?_ ?_ ?_
  ·
   simp only [Lss, go_sem]
   (repeat' apply And.intro) <;> first | rfl | omega | trivial | (simp; done)
  ·
   exact ⟨by omega, rfl⟩
  rintro k ⟨hk, he⟩ K7 hK7
  try simp only [go_sem]
  refine awp_seq_k fun K8 hK8 => ?_
  refine awp_seq_k fun K9 hK9 => ?_
  refine awp_regionL (by rfl) ?_
  try simp only [go_sem]
  refine hK9 _ _ _ (awp_keep [0, 1, 5, 14] ?_)
  try clear hK9 K9
  try simp only [go_sem]
  refine awp_cond (by rfl) (fun hc1 => ?_) (fun hc1 => ?_)
  ·
   skip
   try simp only [decide_eq_true_eq, decide_eq_false_iff_not, Bool.not_eq_true', Bool.not_eq_false', Bool.and_eq_true, Bool.or_eq_true, Bool.or_eq_false_iff, Bool.and_eq_false_imp] at hc1
   have hk2 : k < a.length := by omega
   have hk3 : k < b.length := by omega
   refine awp_skip ?_
   try simp only [go_sem]
   refine hK8 _ _ _ (awp_keep [0, 1, 5] ?_)
   try clear hK8 K8
   try simp only [go_sem]
   refine awp_seq_k fun K10 hK10 => ?_
   refine awp_block ?_
   refine awp_seq_k fun K11 hK11 => ?_
   refine awp_drawP (by kernel_rfl) (by rfl) (by kernel_rfl) (fun _ => true) (.early 0 (.early 1 (.early 2 (.early 3 (.early 4 (.early 5 (.early 6 (.early 7 (.early 8 .done))))))))) (by kernel_rfl) (fun _ _ _ _ => by simp only [go_sem, not_false_eq_true]) ?_
   try simp only [go_sem]
   refine ix_map k rfl (by omega) ?_
   try simp only [go_sem]
   refine ix_map k rfl (by omega) ?_
   try simp only [go_sem]
   refine hK11 _ _ _ (awp_keep [0, 1, 5, 25] ?_)
   try clear hK11 K11
   try simp only [go_sem]
   refine awp_cond (by rfl) (fun hc2 => ?_) (fun hc2 => ?_)
   ·
    skip
    try simp only [decide_eq_true_eq, decide_eq_false_iff_not, Bool.not_eq_true', Bool.not_eq_false', Bool.and_eq_true, Bool.or_eq_true, Bool.or_eq_false_iff, Bool.and_eq_false_imp] at hc2
    refine awp_seq_k fun K12 hK12 => ?_
    refine awp_regionL (by rfl) ?_
    try simp only [go_sem]
    refine hK12 _ _ _ (awp_keep [4] ?_)
    try clear hK12 K12
    try simp only [go_sem]
    refine awp_ret ?_
    try simp only [go_sem]
    try clear hK12 K12
    try clear hK11 K11
    try clear hK10 K10
    try clear hK9 K9
    try clear hK8 K8
    try clear hK7 K7
    try clear hK6 K6
    try clear hK5 K5
    try clear hK4 K4
    try clear hK3 K3
    try clear hK2 K2
    try clear hK1 K1
    refine ret_p (by simp) (by rfl) ?_ (by rfl)
    (try simp (disch := omega) only [w_i64, w_u8, w_u16, w_u32, w_u64]); simp only [go_sem] <;> (simp [ne_of_get hk2 hk3 (by assumption)])
   ·
    skip
    try simp only [decide_eq_true_eq, decide_eq_false_iff_not, Bool.not_eq_true', Bool.not_eq_false', Bool.and_eq_true, Bool.or_eq_true, Bool.or_eq_false_iff, Bool.and_eq_false_imp] at hc2
    refine awp_skip ?_
    try simp only [go_sem]
    refine hK10 _ _ _ (awp_keep [0, 1, 5] ?_)
    try clear hK10 K10
    try simp only [go_sem]
    refine awp_regionL (by rfl) ?_
    try simp only [go_sem]
    try simp (disch := omega) only [w_i64, w_u8, w_u16, w_u32, w_u64]
    refine hK7 _ _ _ ⟨k + 1, [], ?_, ?_⟩
    ·
     (try simp (disch := omega) only [w_i64, w_u8, w_u16, w_u32, w_u64]); simp only [Lss, go_sem]
     (repeat' apply And.intro) <;> first | rfl | omega | trivial | (simp; done)
    ·
     exact ⟨⟨by omega, take_eq_succ he hk2 hk3 (by simpa using hc2)⟩, by omega⟩
  ·
   skip
   try simp only [decide_eq_true_eq, decide_eq_false_iff_not, Bool.not_eq_true', Bool.not_eq_false', Bool.and_eq_true, Bool.or_eq_true, Bool.or_eq_false_iff, Bool.and_eq_false_imp] at hc1
   refine awp_exit ?_
   try simp only [go_sem]
   refine hK5 _ _ _ (awp_keep [] ?_)
   try clear hK5 K5
   try simp only [go_sem]
   refine awp_seq_k fun K13 hK13 => ?_
   refine awp_regionL (by rfl) ?_
   try simp only [go_sem]
   refine hK13 _ _ _ (awp_keep [4] ?_)
   try clear hK13 K13
   try simp only [go_sem]
   refine awp_ret ?_
   try simp only [go_sem]
   try clear hK13 K13
   try clear hK12 K12
   try clear hK11 K11
   try clear hK10 K10
   try clear hK9 K9
   try clear hK8 K8
   try clear hK7 K7
   try clear hK6 K6
   try clear hK5 K5
   try clear hK4 K4
   try clear hK3 K3
   try clear hK2 K2
   try clear hK1 K1
   refine ret_p (by simp) (by rfl) ?_ (by rfl)
   (try simp (disch := omega) only [w_i64, w_u8, w_u16, w_u32, w_u64]); simp only [go_sem] <;> (simp [eq_of_take he (by omega) (by omega)])
end

section
attribute [local go_sem] Seg.cells u32s
set_option maxRecDepth 20000 in
set_option maxHeartbeats 8000000 in
theorem aspath_Same_1_ok (x y : Seg) : ACX Go.Proofs.Tryd.prog G0 58 [.agg x.cells, .agg y.cells] [] [] (.l (.bool (decide (x = y)))) [] [] := by
 refine acalls_intro Go.Proofs.Tryd.func58 rfl (by kernel_rfl) Go.Proofs.Tryd.ntmps58 Go.Proofs.Tryd.results58 (by simp) rfl rfl ?_
 try simp only [go_sem]
 refine awp_seq_k fun K1 hK1 => ?_
 refine awp_regionL (by rfl) ?_
 try simp only [go_sem]
 refine hK1 _ _ _ (awp_keep [2, 3] ?_)
 try clear hK1 K1
 try simp only [go_sem]
 refine awp_seq_k fun K2 hK2 => ?_
 refine awp_regionL (by rfl) ?_
 try simp only [go_sem]
 refine gcall_p ?_ (by rfl) (by simp only [go_sem]; rfl) (fun hg => ⟨Equal_u32_ok x.nums y.nums, by simp only [hg, go_sem]⟩) ?_
 ·
  rfl
 try simp only [go_sem]
 repeat (refine Must.au ?_; try simp only [go_sem])
 repeat (refine Must.au ?_; try simp only [go_sem])
 refine hK2 _ _ _ (awp_keep [4] ?_)
 try clear hK2 K2
 try simp only [go_sem]
 refine awp_ret ?_
 try simp only [go_sem]
 try clear hK2 K2
 try clear hK1 K1
 refine ret_p (by simp) (by rfl) ?_ (by rfl)
 (try simp (disch := omega) only [w_i64, w_u8, w_u16, w_u32, w_u64]); simp only [go_sem] <;> (cases x; cases y; simp)
end

section
attribute [local go_sem] segs Seg.cells u32s
set_option maxRecDepth 20000 in
set_option maxHeartbeats 8000000 in
theorem EqualFunc_seg_ok (a b : List Seg) : ACX Go.Proofs.Tryd.prog G0 57 [.l (segs a), .l (segs b), .l (.fn 58 [])] [] [] (.l (.bool (decide (a = b)))) [] [] := by
 refine acalls_intro Go.Proofs.Tryd.func57 rfl (by kernel_rfl) Go.Proofs.Tryd.ntmps57 Go.Proofs.Tryd.results57 (by simp) rfl rfl ?_
 try simp only [go_sem]
 refine awp_seq_k fun K1 hK1 => ?_
 refine awp_regionL (by rfl) ?_
 try simp only [go_sem]
 refine hK1 _ _ _ (awp_keep [0, 1, 2] ?_)
 try clear hK1 K1
 try simp only [go_sem]
 refine awp_seq_k fun K2 hK2 => ?_
 refine awp_seq_k fun K3 hK3 => ?_
 refine awp_regionL (by rfl) ?_
 try simp only [go_sem]
 refine hK3 _ _ _ (awp_keep [0, 1, 2, 14] ?_)
 try clear hK3 K3
 try simp only [go_sem]
 refine awp_cond (by rfl) (fun hc0 => ?_) (fun hc0 => ?_)
 ·
  skip
  try simp only [decide_eq_true_eq, decide_eq_false_iff_not, Bool.not_eq_true', Bool.not_eq_false', Bool.and_eq_true, Bool.or_eq_true, Bool.or_eq_false_iff, Bool.and_eq_false_imp] at hc0
  refine awp_seq_k fun K4 hK4 => ?_
  refine awp_regionL (by rfl) ?_
  try simp only [go_sem]
  refine hK4 _ _ _ (awp_keep [6] ?_)
  try clear hK4 K4
  try simp only [go_sem]
  refine awp_ret ?_
  try simp only [go_sem]
  try clear hK4 K4
  try clear hK3 K3
  try clear hK2 K2
  try clear hK1 K1
  refine ret_p (by simp) (by rfl) ?_ (by rfl)
  (try simp (disch := omega) only [w_i64, w_u8, w_u16, w_u32, w_u64]); simp only [go_sem] <;> (simp [ne_of_len hc0])
 ·
  skip
  try simp only [decide_eq_true_eq, decide_eq_false_iff_not, Bool.not_eq_true', Bool.not_eq_false', Bool.and_eq_true, Bool.or_eq_true, Bool.or_eq_false_iff, Bool.and_eq_false_imp] at hc0
  refine awp_len 0 rfl fun hlen => ?_
  simp only [ul_length, bl_length, sgl_length] at hlen
  refine awp_skip ?_
  try simp only [go_sem]
  refine hK2 _ _ _ (awp_keep [0, 1, 2] ?_)
  try clear hK2 K2
  try simp only [go_sem]
  refine awp_seq_k fun K5 hK5 => ?_
  refine awp_seq_k fun K6 hK6 => ?_
  refine awp_regionL (by rfl) ?_
  try simp only [go_sem]
  refine hK6 _ _ _ (awp_keep [1, 2, 15, 16, 17] ?_)
  try clear hK6 K6
  try simp only [go_sem]
  refine awp_block ?_
  refine awp_loopE (α := (Nat)) (fun (k : (Nat)) => k ≤ a.length ∧ a.take k = b.take k) (fun (k : (Nat)) => a.length - k) (fun (k : (Nat)) => [(17, .l (.int .i64 (k : Int)))]) (fun (k : (Nat)) => []) (fun (k : (Nat)) => []) [1, 2, 15, 16] 0 [] ?_ ?_ ?_
  ·
   simp only [Lss, go_sem]
   (repeat' apply And.intro) <;> first | rfl | omega | trivial | (simp; done)
  ·
   exact ⟨by omega, rfl⟩
  rintro k ⟨hk, he⟩ K7 hK7
  try simp only [go_sem]
  refine awp_seq_k fun K8 hK8 => ?_
  refine awp_regionL (by rfl) ?_
  try simp only [go_sem]
  refine hK8 _ _ _ (awp_keep [1, 2, 15, 16, 17, 18] ?_)
  try clear hK8 K8
  try simp only [go_sem]
  refine awp_seq_k fun K9 hK9 => ?_
  refine awp_cond (by rfl) (fun hc1 => ?_) (fun hc1 => ?_)
  ·
   skip
   try simp only [decide_eq_true_eq, decide_eq_false_iff_not, Bool.not_eq_true', Bool.not_eq_false', Bool.and_eq_true, Bool.or_eq_true, Bool.or_eq_false_iff, Bool.and_eq_false_imp] at hc1
   have hk2 : k < a.length := by omega
   have hk3 : k < b.length := by omega
   refine awp_skip ?_
   try simp only [go_sem]
   refine hK9 _ _ _ (awp_keep [1, 2, 15, 16, 17] ?_)
   try clear hK9 K9
   try simp only [go_sem]
   refine awp_seq_k fun K10 hK10 => ?_
   refine awp_block ?_
   refine awp_seq_k fun K11 hK11 => ?_
   refine awp_regionL (by rfl) ?_
   try simp only [go_sem]
   refine ix_map k rfl (by omega) ?_
   try simp only [go_sem]
   refine hK11 _ _ _ (awp_keep [1, 2, 7, 8, 15, 16, 17] ?_)
   try clear hK11 K11
   try simp only [go_sem]
   refine awp_seq_k fun K12 hK12 => ?_
   refine awp_regionL (by rfl) ?_
   try simp only [go_sem]
   refine ix_map k rfl (by omega) ?_
   try simp only [go_sem]
   refine hK12 _ _ _ (awp_keep [1, 2, 8, 9, 15, 16, 17] ?_)
   try clear hK12 K12
   try simp only [go_sem]
   refine awp_seq_k fun K13 hK13 => ?_
   refine awp_regionL (by rfl) ?_
   try simp only [go_sem]
   refine acall_pa (aspath_Same_1_ok a[k] b[k]) ?_
   try simp only [go_sem]
   refine hK13 _ _ _ (awp_keep [1, 2, 15, 16, 17, 30] ?_)
   try clear hK13 K13
   try simp only [go_sem]
   refine awp_cond (by rfl) (fun hc2 => ?_) (fun hc2 => ?_)
   ·
    skip
    try simp only [decide_eq_true_eq, decide_eq_false_iff_not, Bool.not_eq_true', Bool.not_eq_false', Bool.and_eq_true, Bool.or_eq_true, Bool.or_eq_false_iff, Bool.and_eq_false_imp] at hc2
    refine awp_seq_k fun K14 hK14 => ?_
    refine awp_regionL (by rfl) ?_
    try simp only [go_sem]
    refine hK14 _ _ _ (awp_keep [6] ?_)
    try clear hK14 K14
    try simp only [go_sem]
    refine awp_ret ?_
    try simp only [go_sem]
    try clear hK14 K14
    try clear hK13 K13
    try clear hK12 K12
    try clear hK11 K11
    try clear hK10 K10
    try clear hK9 K9
    try clear hK8 K8
    try clear hK7 K7
    try clear hK6 K6
    try clear hK5 K5
    try clear hK4 K4
    try clear hK3 K3
    try clear hK2 K2
    try clear hK1 K1
    refine ret_p (by simp) (by rfl) ?_ (by rfl)
    (try simp (disch := omega) only [w_i64, w_u8, w_u16, w_u32, w_u64]); simp only [go_sem] <;> (simp [ne_of_get hk2 hk3 (by assumption)])
   ·
    skip
    try simp only [decide_eq_true_eq, decide_eq_false_iff_not, Bool.not_eq_true', Bool.not_eq_false', Bool.and_eq_true, Bool.or_eq_true, Bool.or_eq_false_iff, Bool.and_eq_false_imp] at hc2
    refine awp_skip ?_
    try simp only [go_sem]
    refine hK10 _ _ _ (awp_keep [1, 2, 15, 16, 17] ?_)
    try clear hK10 K10
    try simp only [go_sem]
    refine awp_regionL (by rfl) ?_
    try simp only [go_sem]
    try simp (disch := omega) only [w_i64, w_u8, w_u16, w_u32, w_u64]
    refine hK7 _ _ _ ⟨k + 1, [], ?_, ?_⟩
    ·
     (try simp (disch := omega) only [w_i64, w_u8, w_u16, w_u32, w_u64]); simp only [Lss, go_sem]
     (repeat' apply And.intro) <;> first | rfl | omega | trivial | (simp; done)
    ·
     exact ⟨⟨by omega, take_eq_succ he hk2 hk3 (by simpa using hc2)⟩, by omega⟩
  ·
   skip
   try simp only [decide_eq_true_eq, decide_eq_false_iff_not, Bool.not_eq_true', Bool.not_eq_false', Bool.and_eq_true, Bool.or_eq_true, Bool.or_eq_false_iff, Bool.and_eq_false_imp] at hc1
   refine awp_exit ?_
   try simp only [go_sem]
   refine hK5 _ _ _ (awp_keep [] ?_)
   try clear hK5 K5
   try simp only [go_sem]
   refine awp_seq_k fun K15 hK15 => ?_
   refine awp_regionL (by rfl) ?_
   try simp only [go_sem]
   refine hK15 _ _ _ (awp_keep [6] ?_)
   try clear hK15 K15
   try simp only [go_sem]
   refine awp_ret ?_
   try simp only [go_sem]
   try clear hK15 K15
   try clear hK14 K14
   try clear hK13 K13
   try clear hK12 K12
   try clear hK11 K11
   try clear hK10 K10
   try clear hK9 K9
   try clear hK8 K8
   try clear hK7 K7
   try clear hK6 K6
   try clear hK5 K5
   try clear hK4 K4
   try clear hK3 K3
   try clear hK2 K2
   try clear hK1 K1
   refine ret_p (by simp) (by rfl) ?_ (by rfl)
   (try simp (disch := omega) only [w_i64, w_u8, w_u16, w_u32, w_u64]); simp only [go_sem] <;> (simp [eq_of_take he (by omega) (by omega)])
end

section
attribute [local go_sem] segs
set_option maxRecDepth 20000 in
set_option maxHeartbeats 8000000 in
theorem aspath_Same_ok (a b : List Seg) : ACX Go.Proofs.Tryd.prog G0 33 [.l (segs a), .l (segs b)] [] [] (.l (.bool (decide (a = b)))) [] [] := by
 refine acalls_intro Go.Proofs.Tryd.func33 rfl (by kernel_rfl) Go.Proofs.Tryd.ntmps33 Go.Proofs.Tryd.results33 (by simp) rfl rfl ?_
 try simp only [go_sem]
 refine awp_seq_k fun K1 hK1 => ?_
 refine awp_regionL (by rfl) ?_
 try simp only [go_sem]
 refine hK1 _ _ _ (awp_keep [0, 1] ?_)
 try clear hK1 K1
 try simp only [go_sem]
 refine awp_seq_k fun K2 hK2 => ?_
 refine awp_regionL (by rfl) ?_
 try simp only [go_sem]
 refine acall_pa (EqualFunc_seg_ok a b) ?_
 try simp only [go_sem]
 refine hK2 _ _ _ (awp_keep [4] ?_)
 try clear hK2 K2
 try simp only [go_sem]
 refine awp_ret ?_
 try simp only [go_sem]
 try clear hK2 K2
 try clear hK1 K1
 refine ret_p (by simp) (by rfl) ?_ (by rfl)
 (try simp (disch := omega) only [w_i64, w_u8, w_u16, w_u32, w_u64]); simp only [go_sem] <;> (first | rfl | omega | trivial | (simp; done) | simp_all)
end

section
attribute [local go_sem] segs Seg.cells u32s
set_option maxRecDepth 20000 in
set_option maxHeartbeats 8000000 in
theorem ref03_Same_ok (a b : List Seg) : ACX Go.Proofs.Tryd.prog G0 31 [.l (segs a), .l (segs b)] [] [] (.l (.bool (decide (a = b)))) [] [] := by
 refine acalls_intro Go.Proofs.Tryd.func31 rfl (by kernel_rfl) Go.Proofs.Tryd.ntmps31 Go.Proofs.Tryd.results31 (by simp) rfl rfl ?_
 try simp only [go_sem]
 refine awp_seq_k fun K1 hK1 => ?_
 refine awp_regionL (by rfl) ?_
 try simp only [go_sem]
 refine hK1 _ _ _ (awp_keep [0, 1] ?_)
 try clear hK1 K1
 try simp only [go_sem]
 refine awp_seq_k fun K2 hK2 => ?_
 refine awp_seq_k fun K3 hK3 => ?_
 refine awp_regionL (by rfl) ?_
 try simp only [go_sem]
 refine hK3 _ _ _ (awp_keep [0, 1, 10] ?_)
 try clear hK3 K3
 try simp only [go_sem]
 refine awp_cond (by rfl) (fun hc0 => ?_) (fun hc0 => ?_)
 ·
  skip
  try simp only [decide_eq_true_eq, decide_eq_false_iff_not, Bool.not_eq_true', Bool.not_eq_false', Bool.and_eq_true, Bool.or_eq_true, Bool.or_eq_false_iff, Bool.and_eq_false_imp] at hc0
  refine awp_seq_k fun K4 hK4 => ?_
  refine awp_regionL (by rfl) ?_
  try simp only [go_sem]
  refine hK4 _ _ _ (awp_keep [4] ?_)
  try clear hK4 K4
  try simp only [go_sem]
  refine awp_ret ?_
  try simp only [go_sem]
  try clear hK4 K4
  try clear hK3 K3
  try clear hK2 K2
  try clear hK1 K1
  refine ret_p (by simp) (by rfl) ?_ (by rfl)
  (try simp (disch := omega) only [w_i64, w_u8, w_u16, w_u32, w_u64]); simp only [go_sem] <;> (simp [ne_of_len hc0])
 ·
  skip
  try simp only [decide_eq_true_eq, decide_eq_false_iff_not, Bool.not_eq_true', Bool.not_eq_false', Bool.and_eq_true, Bool.or_eq_true, Bool.or_eq_false_iff, Bool.and_eq_false_imp] at hc0
  refine awp_len 0 rfl fun hlen => ?_
  simp only [ul_length, bl_length, sgl_length] at hlen
  refine awp_skip ?_
  try simp only [go_sem]
  refine hK2 _ _ _ (awp_keep [0, 1] ?_)
  try clear hK2 K2
  try simp only [go_sem]
  refine awp_seq_k fun K5 hK5 => ?_
  refine awp_seq_k fun K6 hK6 => ?_
  refine awp_regionL (by rfl) ?_
  try simp only [go_sem]
  refine hK6 _ _ _ (awp_keep [0, 1, 5] ?_)
  try clear hK6 K6
  try simp only [go_sem]
  refine awp_block ?_
  refine awp_loopE (α := (Nat)) (fun (k : (Nat)) => k ≤ a.length ∧ a.take k = b.take k) (fun (k : (Nat)) => a.length - k) (fun (k : (Nat)) => [(5, .l (.int .i64 (k : Int)))]) (fun (k : (Nat)) => []) (fun (k : (Nat)) => []) [0, 1] 0 [] ?_ ?_ ?_
  ·
   simp only [Lss, go_sem]
   (repeat' apply And.intro) <;> first | rfl | omega | trivial | (simp; done)
  ·
   exact ⟨by omega, rfl⟩
  rintro k ⟨hk, he⟩ K7 hK7
  try simp only [go_sem]
  refine awp_seq_k fun K8 hK8 => ?_
  refine awp_seq_k fun K9 hK9 => ?_
  refine awp_regionL (by rfl) ?_
  try simp only [go_sem]
  refine hK9 _ _ _ (awp_keep [0, 1, 5, 14] ?_)
  try clear hK9 K9
  try simp only [go_sem]
  refine awp_cond (by rfl) (fun hc1 => ?_) (fun hc1 => ?_)
  ·
   skip
   try simp only [decide_eq_true_eq, decide_eq_false_iff_not, Bool.not_eq_true', Bool.not_eq_false', Bool.and_eq_true, Bool.or_eq_true, Bool.or_eq_false_iff, Bool.and_eq_false_imp] at hc1
   have hk2 : k < a.length := by omega
   have hk3 : k < b.length := by omega
   refine awp_skip ?_
   try simp only [go_sem]
   refine hK8 _ _ _ (awp_keep [0, 1, 5] ?_)
   try clear hK8 K8
   try simp only [go_sem]
   refine awp_seq_k fun K10 hK10 => ?_
   refine awp_block ?_
   refine awp_seq_k fun K11 hK11 => ?_
   refine awp_drawP (by kernel_rfl) (by rfl) (by kernel_rfl) (fun _ => true) (.early 0 (.early 1 (.early 2 (.early 3 (.early 4 (.early 5 (.early 6 (.early 7 (.early 8 (.early 9 (.early 10 (.early 11 (.early 12 (.early 13 (.early 14 (.early 15 (.early 16 (.early 17 (.early 18 (.early 19 (.early 20 (.early 21 (.late 22 (.early 23 (.early 24 .done))))))))))))))))))))))))) (by kernel_rfl) (fun _ _ _ _ => by simp only [go_sem, not_false_eq_true]) ?_
   try simp only [go_sem]
   refine ix_map k rfl (by omega) ?_
   try simp only [go_sem]
   repeat (refine Must.au ?_; try simp only [go_sem])
   refine ix_map k rfl (by omega) ?_
   try simp only [go_sem]
   repeat (refine Must.au ?_; try simp only [go_sem])
   refine gixE (Seg.cells a[k]) (by rfl) (by rfl) (by simp only [go_sem]; rfl) (by simp only [go_sem]) (by decide) (fun hg => ?_) ?_
   ·
    skip
    exact ⟨by omega, by simp [sgl, hk2, hk3, Seg.cells, u32s]⟩
   try simp only [go_sem]
   repeat (refine Must.au ?_; try simp only [go_sem])
   refine gixE (Seg.cells b[k]) (by rfl) (by rfl) (by simp only [go_sem]; rfl) (by simp only [go_sem]) (by decide) (fun hg => ?_) ?_
   ·
    skip
    exact ⟨by omega, by simp [sgl, hk2, hk3, Seg.cells, u32s]⟩
   try simp only [go_sem]
   repeat (refine Must.au ?_; try simp only [go_sem])
   refine gcall_p ?_ (by rfl) (by simp only [go_sem]; rfl) (fun hg => ⟨ref03_Nums_ok a[k].nums b[k].nums, by simp only [hg, go_sem]⟩) ?_
   ·
    rfl
   try simp only [go_sem]
   repeat (refine Must.au ?_; try simp only [go_sem])
   repeat (refine Must.au ?_; try simp only [go_sem])
   refine hK11 _ _ _ (awp_keep [0, 1, 5, 41] ?_)
   try clear hK11 K11
   try simp only [go_sem]
   refine awp_cond (by rfl) (fun hc2 => ?_) (fun hc2 => ?_)
   ·
    skip
    try simp only [decide_eq_true_eq, decide_eq_false_iff_not, Bool.not_eq_true', Bool.not_eq_false', Bool.and_eq_true, Bool.or_eq_true, Bool.or_eq_false_iff, Bool.and_eq_false_imp] at hc2
    refine awp_seq_k fun K12 hK12 => ?_
    refine awp_regionL (by rfl) ?_
    try simp only [go_sem]
    refine hK12 _ _ _ (awp_keep [4] ?_)
    try clear hK12 K12
    try simp only [go_sem]
    refine awp_ret ?_
    try simp only [go_sem]
    try clear hK12 K12
    try clear hK11 K11
    try clear hK10 K10
    try clear hK9 K9
    try clear hK8 K8
    try clear hK7 K7
    try clear hK6 K6
    try clear hK5 K5
    try clear hK4 K4
    try clear hK3 K3
    try clear hK2 K2
    try clear hK1 K1
    refine ret_p (by simp) (by rfl) ?_ (by rfl)
    (try simp (disch := omega) only [w_i64, w_u8, w_u16, w_u32, w_u64]); simp only [go_sem] <;> (exact (decide_eq_false (ne_of_get hk2 hk3 (fun h => by rw [h] at hc2; simp at hc2))).symm)
   ·
    skip
    try simp only [decide_eq_true_eq, decide_eq_false_iff_not, Bool.not_eq_true', Bool.not_eq_false', Bool.and_eq_true, Bool.or_eq_true, Bool.or_eq_false_iff, Bool.and_eq_false_imp] at hc2
    refine awp_skip ?_
    try simp only [go_sem]
    refine hK10 _ _ _ (awp_keep [0, 1, 5] ?_)
    try clear hK10 K10
    try simp only [go_sem]
    refine awp_regionL (by rfl) ?_
    try simp only [go_sem]
    try simp (disch := omega) only [w_i64, w_u8, w_u16, w_u32, w_u64]
    refine hK7 _ _ _ ⟨k + 1, [], ?_, ?_⟩
    ·
     (try simp (disch := omega) only [w_i64, w_u8, w_u16, w_u32, w_u64]); simp only [Lss, go_sem]
     (repeat' apply And.intro) <;> first | rfl | omega | trivial | (simp; done)
    ·
     exact ⟨⟨by omega, take_eq_succ he hk2 hk3 (by have h1 := hc2.1; have h2 := hc2.2; revert h1 h2; generalize a[k] = x; generalize b[k] = y; intro h1 h2; cases x; cases y; simp_all)⟩, by omega⟩
  ·
   skip
   try simp only [decide_eq_true_eq, decide_eq_false_iff_not, Bool.not_eq_true', Bool.not_eq_false', Bool.and_eq_true, Bool.or_eq_true, Bool.or_eq_false_iff, Bool.and_eq_false_imp] at hc1
   refine awp_exit ?_
   try simp only [go_sem]
   refine hK5 _ _ _ (awp_keep [] ?_)
   try clear hK5 K5
   try simp only [go_sem]
   refine awp_seq_k fun K13 hK13 => ?_
   refine awp_regionL (by rfl) ?_
   try simp only [go_sem]
   refine hK13 _ _ _ (awp_keep [4] ?_)
   try clear hK13 K13
   try simp only [go_sem]
   refine awp_ret ?_
   try simp only [go_sem]
   try clear hK13 K13
   try clear hK12 K12
   try clear hK11 K11
   try clear hK10 K10
   try clear hK9 K9
   try clear hK8 K8
   try clear hK7 K7
   try clear hK6 K6
   try clear hK5 K5
   try clear hK4 K4
   try clear hK3 K3
   try clear hK2 K2
   try clear hK1 K1
   refine ret_p (by simp) (by rfl) ?_ (by rfl)
   (try simp (disch := omega) only [w_i64, w_u8, w_u16, w_u32, w_u64]); simp only [go_sem] <;> (simp [eq_of_take he (by omega) (by omega)])
end

section
attribute [local go_sem] Seg.cells u32s
set_option maxRecDepth 20000 in
set_option maxHeartbeats 8000000 in
theorem aspath_Flat_1_ok (s : Seg) : ACX Go.Proofs.Tryd.prog G0 81 [.agg s.cells] [] [] (.l (u32s s.nums)) [] [] := by
 refine acalls_intro Go.Proofs.Tryd.func81 rfl (by kernel_rfl) Go.Proofs.Tryd.ntmps81 Go.Proofs.Tryd.results81 (by simp) rfl rfl ?_
 try simp only [go_sem]
 refine awp_seq_k fun K1 hK1 => ?_
 refine awp_regionL (by rfl) ?_
 try simp only [go_sem]
 refine hK1 _ _ _ (awp_keep [1] ?_)
 try clear hK1 K1
 try simp only [go_sem]
 refine awp_seq_k fun K2 hK2 => ?_
 refine awp_regionL (by rfl) ?_
 try simp only [go_sem]
 refine hK2 _ _ _ (awp_keep [2] ?_)
 try clear hK2 K2
 try simp only [go_sem]
 refine awp_ret ?_
 try simp only [go_sem]
 try clear hK2 K2
 try clear hK1 K1
 refine ret_p (by simp) (by rfl) ?_ (by rfl)
 (try simp (disch := omega) only [w_i64, w_u8, w_u16, w_u32, w_u64]); simp only [go_sem] <;> (first | rfl | omega | trivial | (simp; done) | simp_all)
end

section
attribute [local go_sem] segs Seg.cells u32s
set_option maxRecDepth 20000 in
set_option maxHeartbeats 8000000 in
theorem gathered_u32_ok (l : List Seg) (hl : tot l ≤ 1000000000) : ACX Go.Proofs.Tryd.prog G0 80 [.l (segs l), .l (.fn 81 [])] [] [] (.l (.slice (.row 0) 1 (ul (flat l)))) [] [(23, (flat l).length)] := by
 refine acalls_intro Go.Proofs.Tryd.func80 rfl (by kernel_rfl) Go.Proofs.Tryd.ntmps80 Go.Proofs.Tryd.results80 (by simp) rfl rfl ?_
 try simp only [go_sem]
 refine awp_len 0 rfl fun hlen => ?_
 simp only [sgl_length] at hlen
 refine awp_seq_k fun K1 hK1 => ?_
 refine awp_regionL (by rfl) ?_
 try simp only [go_sem]
 refine hK1 _ _ _ (awp_keep [0, 1] ?_)
 try clear hK1 K1
 try simp only [go_sem]
 refine awp_seq_k fun K2 hK2 => ?_
 refine awp_regionL (by rfl) ?_
 try simp only [go_sem]
 refine hK2 _ _ _ (awp_keep [0, 1, 5] ?_)
 try clear hK2 K2
 try simp only [go_sem]
 refine awp_seq_k fun K3 hK3 => ?_
 refine awp_seq_k fun K4 hK4 => ?_
 refine awp_regionL (by rfl) ?_
 try simp only [go_sem]
 refine hK4 _ _ _ (awp_keep [1, 5, 8, 9, 10] ?_)
 try clear hK4 K4
 try simp only [go_sem]
 refine awp_block ?_
 refine awp_begin 5 23 1 rfl ?_
 simp only [go_sem]
 refine awp_loopE (α := (Nat)) (fun (k : (Nat)) => k ≤ l.length) (fun (k : (Nat)) => l.length - k) (fun (k : (Nat)) => [(5, .l (.slice (.row 0) 1 (ul (flat (l.take k))))), (10, .l (.int .i64 (k : Int)))]) (fun (k : (Nat)) => []) (fun (k : (Nat)) => [(23, (flat (l.take k)).length)]) [1, 8, 9] 0 [0] ?_ ?_ ?_
 ·
  simp only [Lss, go_sem]
  simp [flat, ul]
  all_goals first | rfl | omega | trivial
 ·
  first | trivial | omega | (simp; done) | (constructor <;> omega)
 rintro k hk K5 hK5
 try simp only [go_sem]
 have hfl := flat_len (l.take k)
 have hle := tot_take_le l k
 refine awp_seq_k fun K6 hK6 => ?_
 refine awp_regionL (by rfl) ?_
 try simp only [go_sem]
 refine hK6 _ _ _ (awp_keep [1, 5, 8, 9, 10, 11] ?_)
 try clear hK6 K6
 try simp only [go_sem]
 refine awp_seq_k fun K7 hK7 => ?_
 refine awp_cond (by rfl) (fun hc0 => ?_) (fun hc0 => ?_)
 ·
  skip
  try simp only [decide_eq_true_eq, decide_eq_false_iff_not, Bool.not_eq_true', Bool.not_eq_false', Bool.and_eq_true, Bool.or_eq_true, Bool.or_eq_false_iff, Bool.and_eq_false_imp] at hc0
  have hk2 : k < l.length := by omega
  have hts := tot_take_succ l k hk2
  have htl := tot_take_le l (k + 1)
  refine awp_skip ?_
  try simp only [go_sem]
  refine hK7 _ _ _ (awp_keep [1, 5, 8, 9, 10] ?_)
  try clear hK7 K7
  try simp only [go_sem]
  refine awp_seq_k fun K8 hK8 => ?_
  refine awp_block ?_
  refine awp_seq_k fun K9 hK9 => ?_
  refine awp_regionL (by rfl) ?_
  try simp only [go_sem]
  refine ix_map k rfl (by omega) ?_
  try simp only [go_sem]
  refine hK9 _ _ _ (awp_keep [1, 5, 7, 8, 9, 10] ?_)
  try clear hK9 K9
  try simp only [go_sem]
  refine awp_regionL (by rfl) ?_
  try simp only [go_sem]
  refine acall_pa (aspath_Flat_1_ok l[k]) ?_
  try simp only [go_sem]
  refine app_row rfl rfl rfl (by first | rfl | (simp only [go_sem, List.length_append, List.length_map, bl_length]; done) | (simp; done) | (simp; omega)) rfl (.inl rfl) (by decide) tby23 (by (try simp only [go_sem, List.length_append, List.length_map, bl_length]); first | omega | (simp; done) | (simp; omega)) (by (try simp only [go_sem, List.length_append, List.length_map, bl_length]); first | omega | (simp; done) | (simp; omega)) ?_
  try simp only [go_sem]
  refine hK8 _ _ _ (awp_keep [1, 5, 8, 9, 10] ?_)
  try clear hK8 K8
  try simp only [go_sem]
  refine awp_regionL (by rfl) ?_
  try simp only [go_sem]
  try simp (disch := omega) only [w_i64, w_u8, w_u16, w_u32, w_u64]
  have hs := flat_take_succ l k hk2
  refine hK5 _ _ _ ⟨k + 1, [0], ?_, ?_⟩
  ·
   (try simp (disch := omega) only [w_i64, w_u8, w_u16, w_u32, w_u64]); simp only [Lss, go_sem, hs, ul_append, List.length_append]
   (repeat' apply And.intro) <;> first | rfl | omega | trivial | (simp; done)
  ·
   exact ⟨by omega, by omega⟩
 ·
  skip
  try simp only [decide_eq_true_eq, decide_eq_false_iff_not, Bool.not_eq_true', Bool.not_eq_false', Bool.and_eq_true, Bool.or_eq_true, Bool.or_eq_false_iff, Bool.and_eq_false_imp] at hc0
  obtain rfl : k = l.length := by omega
  simp only [List.take_length]
  refine awp_exit ?_
  try simp only [go_sem]
  refine hK3 _ _ _ (awp_keep [5] ?_)
  try clear hK3 K3
  try simp only [go_sem]
  refine awp_seq_k fun K10 hK10 => ?_
  refine awp_regionL (by rfl) ?_
  try simp only [go_sem]
  refine hK10 _ _ _ (awp_keep [4] ?_)
  try clear hK10 K10
  try simp only [go_sem]
  refine awp_ret ?_
  try simp only [go_sem]
  try clear hK10 K10
  try clear hK9 K9
  try clear hK8 K8
  try clear hK7 K7
  try clear hK6 K6
  try clear hK5 K5
  try clear hK4 K4
  try clear hK3 K3
  try clear hK2 K2
  try clear hK1 K1
  refine ret_x [0] (by simp) (by rfl) ?_ (by rfl) ?_ (by rfl) (by simp) (by simp) (by rfl) ?_ <;> ((try simp (disch := omega) only [w_i64, w_u8, w_u16, w_u32, w_u64]); simp only [go_sem]) <;> (first | rfl | omega | trivial | (simp; done) | simp_all)
end

section
attribute [local go_sem] segs
set_option maxRecDepth 20000 in
set_option maxHeartbeats 8000000 in
theorem aspath_Flat_ok (l : List Seg) (hl : tot l ≤ 1000000000) : ACX Go.Proofs.Tryd.prog G0 62 [.l (segs l)] [] [] (.l (.slice (.row 0) 1 (ul (flat l)))) [] [(23, (flat l).length)] := by
 refine acalls_intro Go.Proofs.Tryd.func62 rfl (by kernel_rfl) Go.Proofs.Tryd.ntmps62 Go.Proofs.Tryd.results62 (by simp) rfl rfl ?_
 try simp only [go_sem]
 refine awp_seq_k fun K1 hK1 => ?_
 refine awp_regionL (by rfl) ?_
 try simp only [go_sem]
 refine hK1 _ _ _ (awp_keep [0] ?_)
 try clear hK1 K1
 try simp only [go_sem]
 refine awp_seq_k fun K2 hK2 => ?_
 refine awp_regionL (by rfl) ?_
 try simp only [go_sem]
 refine acall_xa (gathered_u32_ok l hl) [] [] ?_
 try simp only [go_sem]
 refine hK2 _ _ _ (awp_keep [2] ?_)
 try clear hK2 K2
 try simp only [go_sem]
 refine awp_ret ?_
 try simp only [go_sem]
 try clear hK2 K2
 try clear hK1 K1
 refine ret_x [0] (by simp) (by rfl) ?_ (by rfl) ?_ (by rfl) (by simp) (by simp) (by rfl) ?_ <;> ((try simp (disch := omega) only [w_i64, w_u8, w_u16, w_u32, w_u64]); simp only [go_sem]) <;> (first | rfl | omega | trivial | (simp; done) | simp_all)
end

end Go.Abs
