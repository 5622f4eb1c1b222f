/-
  OF NIL, AND OF ONE THAT NO CALL MADE, THERE IS NOTHING: the law's call, by its run.
-/
import Derived.Test.YtgdcllbfeghloaaGreatDoorG1
import Derived.Test.YtgdcllbfeghloaaGreatDoorAbs25
set_option linter.all false
namespace Go.Abs
open Go Go.Proofs
theorem law24_awake_ok : ACX Go.Proofs.Tryz.prog G0 11 [] [] [] (.l (.bool true)) [] [] := acx_true (by kernel_rfl) 3000 (by kernel_rfl)

set_option maxRecDepth 20000 in
set_option maxHeartbeats 8000000 in
theorem law_PeerNobody_ok (dir : Int) (es : List (List LV)) : ACX Go.Proofs.Tryz.prog G0 4 [.l (.int .i64 dir), .l (.slice .shared 1 es)] [] [] (.l (.bool true)) [] [] := by
 refine acalls_intro Go.Proofs.Tryz.func4 rfl (by kernel_rfl) Go.Proofs.Tryz.ntmps4 Go.Proofs.Tryz.results4 (by simp) rfl rfl ?_
 try simp only [go_sem]
 refine awp_seq_k fun K1 hK1 => ?_
 refine awp_regionL (by rfl) ?_
 try simp only [go_sem]
 refine hK1 _ _ _ (awp_keep [0, 1] ?_)
 try clear hK1 K1
 try simp only [go_sem]
 refine awp_seq_k fun K2 hK2 => ?_
 refine awp_seq_k fun K3 hK3 => ?_
 refine awp_regionL (by rfl) ?_
 try simp only [go_sem]
 refine hK3 _ _ _ (awp_keep [0, 1, 13] ?_)
 try clear hK3 K3
 try simp only [go_sem]
 refine awp_cond (by rfl) (fun hc0 => ?_) (fun hc0 => ?_)
 ·
  skip
  try simp only [decide_eq_true_eq, decide_eq_false_iff_not, Bool.not_eq_true', Bool.not_eq_false', Bool.and_eq_true, Bool.or_eq_true, Bool.or_eq_false_iff, Bool.and_eq_false_imp] at hc0
  refine awp_seq_k fun K4 hK4 => ?_
  refine awp_regionL (by rfl) ?_
  try simp only [go_sem]
  refine acall_pa (law24_awake_ok) ?_
  try simp only [go_sem]
  refine hK4 _ _ _ (awp_keep [4] ?_)
  try clear hK4 K4
  try simp only [go_sem]
  refine awp_ret ?_
  try simp only [go_sem]
  try clear hK4 K4
  try clear hK3 K3
  try clear hK2 K2
  try clear hK1 K1
  refine ret_p (by simp) (by rfl) ?_ (by rfl)
  (try simp (disch := omega) only [w_i64, w_u8, w_u16, w_u32, w_u64]); simp only [go_sem] <;> (first | rfl | omega | trivial | (simp; done) | simp_all)
 ·
  skip
  try simp only [decide_eq_true_eq, decide_eq_false_iff_not, Bool.not_eq_true', Bool.not_eq_false', Bool.and_eq_true, Bool.or_eq_true, Bool.or_eq_false_iff, Bool.and_eq_false_imp] at hc0
  refine awp_skip ?_
  try simp only [go_sem]
  refine hK2 _ _ _ (awp_keep [0, 1] ?_)
  try clear hK2 K2
  try simp only [go_sem]
  (match dir with
  | .negSucc k => exact awp_run_true (by kernel_rfl) 3000 (by kernel_rfl)
  | .ofNat 0 => exact awp_run_true (by kernel_rfl) 3000 (by kernel_rfl)
  | .ofNat 1 => exact awp_run_true (by kernel_rfl) 3000 (by kernel_rfl)
  | .ofNat (k + 2) => exact awp_run_true (by kernel_rfl) 3000 (by kernel_rfl))

end Go.Abs
