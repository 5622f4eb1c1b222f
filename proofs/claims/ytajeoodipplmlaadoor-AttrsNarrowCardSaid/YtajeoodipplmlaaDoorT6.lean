/-
  ATTRIBUTES, 2: which kinds are known, whether attributes may be.
-/
import Derived.Test.YtajeoodipplmlaaDoorT5
set_option linter.all false
namespace Go.Abs
open Go Go.Proofs
def knownS (k : Int) : Bool := !decide (flagsS k = 0)
theorem looksC_big {n : Nat} (h : 57 ≤ n) : looksC[n]? = none := List.getElem?_eq_none (by simpa [looksC] using h)

section
attribute [local go_sem] Nat.zero_mul
set_option maxRecDepth 20000 in
set_option maxHeartbeats 8000000 in
theorem attrs_Known_neg (k : Int) (hk : k < 0) : ACX Go.Proofs.Tryd.prog G0 12 [.l (.int .i64 k)] [] [] (.l (.bool false)) [] [] := by
 have hz : decide (0 ≤ k) = false := by simp; omega
 have hn : k.toNat = 0 := by omega
 refine acalls_intro Go.Proofs.Tryd.func12 rfl (by kernel_rfl) Go.Proofs.Tryd.ntmps12 Go.Proofs.Tryd.results12 (by simp) rfl rfl ?_
 try simp only [go_sem, hz, hn]
 refine awp_seq_k fun K1 hK1 => ?_
 refine awp_regionL (by rfl) ?_
 try simp only [go_sem, hz, hn]
 refine hK1 _ _ _ (awp_keep [0] ?_)
 try clear hK1 K1
 try simp only [go_sem, hz, hn]
 refine awp_seq_k fun K2 hK2 => ?_
 refine awp_regionL (by rfl) ?_
 try simp only [go_sem, hz, hn]
 repeat (refine Must.au ?_; try simp only [go_sem])
 refine hK2 _ _ _ (awp_keep [2] ?_)
 try clear hK2 K2
 try simp only [go_sem, hz, hn]
 refine awp_ret ?_
 try simp only [go_sem, hz, hn]
 try clear hK2 K2
 try clear hK1 K1
 refine ret_p (by simp) (by rfl) ?_ (by rfl)
 (try simp (disch := omega) only [w_i64, w_u8, w_u16, w_u32, w_u64]); simp only [go_sem, hz, hn] <;> (first | rfl | omega | trivial | (simp; done) | simp_all)
end

set_option maxRecDepth 20000 in
set_option maxHeartbeats 8000000 in
theorem attrs_Known_big (k : Int) (hk : 19 ≤ k) : ACX Go.Proofs.Tryd.prog G0 12 [.l (.int .i64 k)] [] [] (.l (.bool false)) [] [] := by
 have hz : decide (k < 19) = false := by simp; omega
 have hy : decide (0 ≤ k) = true := by simp; omega
 have hn : looksC[k.toNat * 3]? = none := looksC_big (by omega)
 refine acalls_intro Go.Proofs.Tryd.func12 rfl (by kernel_rfl) Go.Proofs.Tryd.ntmps12 Go.Proofs.Tryd.results12 (by simp) rfl rfl ?_
 try simp only [go_sem, hz, hy, hn]
 refine awp_seq_k fun K1 hK1 => ?_
 refine awp_regionL (by rfl) ?_
 try simp only [go_sem, hz, hy, hn]
 refine hK1 _ _ _ (awp_keep [0] ?_)
 try clear hK1 K1
 try simp only [go_sem, hz, hy, hn]
 refine awp_seq_k fun K2 hK2 => ?_
 refine awp_regionL (by rfl) ?_
 try simp only [go_sem, hz, hy, hn]
 repeat (refine Must.au ?_; try simp only [go_sem])
 refine GrdO.no ?_
 simp only [go_sem]
 refine GrdO.noB ?_
 simp only [go_sem]
 refine hK2 _ _ _ (awp_keep [2] ?_)
 try clear hK2 K2
 try simp only [go_sem, hz, hy, hn]
 refine awp_ret ?_
 try simp only [go_sem, hz, hy, hn]
 try clear hK2 K2
 try clear hK1 K1
 refine ret_p (by simp) (by rfl) ?_ (by rfl)
 (try simp (disch := omega) only [w_i64, w_u8, w_u16, w_u32, w_u64]); simp only [go_sem, hz, hy, hn] <;> (first | rfl | omega | trivial | (simp; done) | simp_all)

set_option maxRecDepth 20000 in
set_option maxHeartbeats 8000000 in
theorem attrs_Known_0  : ACX Go.Proofs.Tryd.prog G0 12 [.l (.int .i64 0)] [] [] (.l (.bool (knownS 0))) [] [] := by
 refine acalls_intro Go.Proofs.Tryd.func12 rfl (by kernel_rfl) Go.Proofs.Tryd.ntmps12 Go.Proofs.Tryd.results12 (by simp) rfl rfl ?_
 try simp only [go_sem]
 refine awp_seq_k fun K1 hK1 => ?_
 refine awp_regionL (by rfl) ?_
 try simp only [go_sem]
 refine hK1 _ _ _ (awp_keep [0] ?_)
 try clear hK1 K1
 try simp only [go_sem]
 refine awp_seq_k fun K2 hK2 => ?_
 refine awp_regionL (by rfl) ?_
 try simp only [go_sem]
 repeat (refine Must.au ?_; try simp only [go_sem])
 refine hK2 _ _ _ (awp_keep [2] ?_)
 try clear hK2 K2
 try simp only [go_sem]
 refine awp_ret ?_
 try simp only [go_sem]
 try clear hK2 K2
 try clear hK1 K1
 refine ret_p (by simp) (by rfl) ?_ (by rfl)
 (try simp (disch := omega) only [w_i64, w_u8, w_u16, w_u32, w_u64]); simp only [go_sem] <;> (decide)

set_option maxRecDepth 20000 in
set_option maxHeartbeats 8000000 in
theorem attrs_Known_1  : ACX Go.Proofs.Tryd.prog G0 12 [.l (.int .i64 1)] [] [] (.l (.bool (knownS 1))) [] [] := by
 refine acalls_intro Go.Proofs.Tryd.func12 rfl (by kernel_rfl) Go.Proofs.Tryd.ntmps12 Go.Proofs.Tryd.results12 (by simp) rfl rfl ?_
 try simp only [go_sem]
 refine awp_seq_k fun K1 hK1 => ?_
 refine awp_regionL (by rfl) ?_
 try simp only [go_sem]
 refine hK1 _ _ _ (awp_keep [0] ?_)
 try clear hK1 K1
 try simp only [go_sem]
 refine awp_seq_k fun K2 hK2 => ?_
 refine awp_regionL (by rfl) ?_
 try simp only [go_sem]
 repeat (refine Must.au ?_; try simp only [go_sem])
 refine hK2 _ _ _ (awp_keep [2] ?_)
 try clear hK2 K2
 try simp only [go_sem]
 refine awp_ret ?_
 try simp only [go_sem]
 try clear hK2 K2
 try clear hK1 K1
 refine ret_p (by simp) (by rfl) ?_ (by rfl)
 (try simp (disch := omega) only [w_i64, w_u8, w_u16, w_u32, w_u64]); simp only [go_sem] <;> (decide)

set_option maxRecDepth 20000 in
set_option maxHeartbeats 8000000 in
theorem attrs_Known_2  : ACX Go.Proofs.Tryd.prog G0 12 [.l (.int .i64 2)] [] [] (.l (.bool (knownS 2))) [] [] := by
 refine acalls_intro Go.Proofs.Tryd.func12 rfl (by kernel_rfl) Go.Proofs.Tryd.ntmps12 Go.Proofs.Tryd.results12 (by simp) rfl rfl ?_
 try simp only [go_sem]
 refine awp_seq_k fun K1 hK1 => ?_
 refine awp_regionL (by rfl) ?_
 try simp only [go_sem]
 refine hK1 _ _ _ (awp_keep [0] ?_)
 try clear hK1 K1
 try simp only [go_sem]
 refine awp_seq_k fun K2 hK2 => ?_
 refine awp_regionL (by rfl) ?_
 try simp only [go_sem]
 repeat (refine Must.au ?_; try simp only [go_sem])
 refine hK2 _ _ _ (awp_keep [2] ?_)
 try clear hK2 K2
 try simp only [go_sem]
 refine awp_ret ?_
 try simp only [go_sem]
 try clear hK2 K2
 try clear hK1 K1
 refine ret_p (by simp) (by rfl) ?_ (by rfl)
 (try simp (disch := omega) only [w_i64, w_u8, w_u16, w_u32, w_u64]); simp only [go_sem] <;> (decide)

set_option maxRecDepth 20000 in
set_option maxHeartbeats 8000000 in
theorem attrs_Known_3  : ACX Go.Proofs.Tryd.prog G0 12 [.l (.int .i64 3)] [] [] (.l (.bool (knownS 3))) [] [] := by
 refine acalls_intro Go.Proofs.Tryd.func12 rfl (by kernel_rfl) Go.Proofs.Tryd.ntmps12 Go.Proofs.Tryd.results12 (by simp) rfl rfl ?_
 try simp only [go_sem]
 refine awp_seq_k fun K1 hK1 => ?_
 refine awp_regionL (by rfl) ?_
 try simp only [go_sem]
 refine hK1 _ _ _ (awp_keep [0] ?_)
 try clear hK1 K1
 try simp only [go_sem]
 refine awp_seq_k fun K2 hK2 => ?_
 refine awp_regionL (by rfl) ?_
 try simp only [go_sem]
 repeat (refine Must.au ?_; try simp only [go_sem])
 refine hK2 _ _ _ (awp_keep [2] ?_)
 try clear hK2 K2
 try simp only [go_sem]
 refine awp_ret ?_
 try simp only [go_sem]
 try clear hK2 K2
 try clear hK1 K1
 refine ret_p (by simp) (by rfl) ?_ (by rfl)
 (try simp (disch := omega) only [w_i64, w_u8, w_u16, w_u32, w_u64]); simp only [go_sem] <;> (decide)

set_option maxRecDepth 20000 in
set_option maxHeartbeats 8000000 in
theorem attrs_Known_4  : ACX Go.Proofs.Tryd.prog G0 12 [.l (.int .i64 4)] [] [] (.l (.bool (knownS 4))) [] [] := by
 refine acalls_intro Go.Proofs.Tryd.func12 rfl (by kernel_rfl) Go.Proofs.Tryd.ntmps12 Go.Proofs.Tryd.results12 (by simp) rfl rfl ?_
 try simp only [go_sem]
 refine awp_seq_k fun K1 hK1 => ?_
 refine awp_regionL (by rfl) ?_
 try simp only [go_sem]
 refine hK1 _ _ _ (awp_keep [0] ?_)
 try clear hK1 K1
 try simp only [go_sem]
 refine awp_seq_k fun K2 hK2 => ?_
 refine awp_regionL (by rfl) ?_
 try simp only [go_sem]
 repeat (refine Must.au ?_; try simp only [go_sem])
 refine hK2 _ _ _ (awp_keep [2] ?_)
 try clear hK2 K2
 try simp only [go_sem]
 refine awp_ret ?_
 try simp only [go_sem]
 try clear hK2 K2
 try clear hK1 K1
 refine ret_p (by simp) (by rfl) ?_ (by rfl)
 (try simp (disch := omega) only [w_i64, w_u8, w_u16, w_u32, w_u64]); simp only [go_sem] <;> (decide)

set_option maxRecDepth 20000 in
set_option maxHeartbeats 8000000 in
theorem attrs_Known_5  : ACX Go.Proofs.Tryd.prog G0 12 [.l (.int .i64 5)] [] [] (.l (.bool (knownS 5))) [] [] := by
 refine acalls_intro Go.Proofs.Tryd.func12 rfl (by kernel_rfl) Go.Proofs.Tryd.ntmps12 Go.Proofs.Tryd.results12 (by simp) rfl rfl ?_
 try simp only [go_sem]
 refine awp_seq_k fun K1 hK1 => ?_
 refine awp_regionL (by rfl) ?_
 try simp only [go_sem]
 refine hK1 _ _ _ (awp_keep [0] ?_)
 try clear hK1 K1
 try simp only [go_sem]
 refine awp_seq_k fun K2 hK2 => ?_
 refine awp_regionL (by rfl) ?_
 try simp only [go_sem]
 repeat (refine Must.au ?_; try simp only [go_sem])
 refine hK2 _ _ _ (awp_keep [2] ?_)
 try clear hK2 K2
 try simp only [go_sem]
 refine awp_ret ?_
 try simp only [go_sem]
 try clear hK2 K2
 try clear hK1 K1
 refine ret_p (by simp) (by rfl) ?_ (by rfl)
 (try simp (disch := omega) only [w_i64, w_u8, w_u16, w_u32, w_u64]); simp only [go_sem] <;> (decide)

set_option maxRecDepth 20000 in
set_option maxHeartbeats 8000000 in
theorem attrs_Known_6  : ACX Go.Proofs.Tryd.prog G0 12 [.l (.int .i64 6)] [] [] (.l (.bool (knownS 6))) [] [] := by
 refine acalls_intro Go.Proofs.Tryd.func12 rfl (by kernel_rfl) Go.Proofs.Tryd.ntmps12 Go.Proofs.Tryd.results12 (by simp) rfl rfl ?_
 try simp only [go_sem]
 refine awp_seq_k fun K1 hK1 => ?_
 refine awp_regionL (by rfl) ?_
 try simp only [go_sem]
 refine hK1 _ _ _ (awp_keep [0] ?_)
 try clear hK1 K1
 try simp only [go_sem]
 refine awp_seq_k fun K2 hK2 => ?_
 refine awp_regionL (by rfl) ?_
 try simp only [go_sem]
 repeat (refine Must.au ?_; try simp only [go_sem])
 refine hK2 _ _ _ (awp_keep [2] ?_)
 try clear hK2 K2
 try simp only [go_sem]
 refine awp_ret ?_
 try simp only [go_sem]
 try clear hK2 K2
 try clear hK1 K1
 refine ret_p (by simp) (by rfl) ?_ (by rfl)
 (try simp (disch := omega) only [w_i64, w_u8, w_u16, w_u32, w_u64]); simp only [go_sem] <;> (decide)

set_option maxRecDepth 20000 in
set_option maxHeartbeats 8000000 in
theorem attrs_Known_7  : ACX Go.Proofs.Tryd.prog G0 12 [.l (.int .i64 7)] [] [] (.l (.bool (knownS 7))) [] [] := by
 refine acalls_intro Go.Proofs.Tryd.func12 rfl (by kernel_rfl) Go.Proofs.Tryd.ntmps12 Go.Proofs.Tryd.results12 (by simp) rfl rfl ?_
 try simp only [go_sem]
 refine awp_seq_k fun K1 hK1 => ?_
 refine awp_regionL (by rfl) ?_
 try simp only [go_sem]
 refine hK1 _ _ _ (awp_keep [0] ?_)
 try clear hK1 K1
 try simp only [go_sem]
 refine awp_seq_k fun K2 hK2 => ?_
 refine awp_regionL (by rfl) ?_
 try simp only [go_sem]
 repeat (refine Must.au ?_; try simp only [go_sem])
 refine hK2 _ _ _ (awp_keep [2] ?_)
 try clear hK2 K2
 try simp only [go_sem]
 refine awp_ret ?_
 try simp only [go_sem]
 try clear hK2 K2
 try clear hK1 K1
 refine ret_p (by simp) (by rfl) ?_ (by rfl)
 (try simp (disch := omega) only [w_i64, w_u8, w_u16, w_u32, w_u64]); simp only [go_sem] <;> (decide)

set_option maxRecDepth 20000 in
set_option maxHeartbeats 8000000 in
theorem attrs_Known_8  : ACX Go.Proofs.Tryd.prog G0 12 [.l (.int .i64 8)] [] [] (.l (.bool (knownS 8))) [] [] := by
 refine acalls_intro Go.Proofs.Tryd.func12 rfl (by kernel_rfl) Go.Proofs.Tryd.ntmps12 Go.Proofs.Tryd.results12 (by simp) rfl rfl ?_
 try simp only [go_sem]
 refine awp_seq_k fun K1 hK1 => ?_
 refine awp_regionL (by rfl) ?_
 try simp only [go_sem]
 refine hK1 _ _ _ (awp_keep [0] ?_)
 try clear hK1 K1
 try simp only [go_sem]
 refine awp_seq_k fun K2 hK2 => ?_
 refine awp_regionL (by rfl) ?_
 try simp only [go_sem]
 repeat (refine Must.au ?_; try simp only [go_sem])
 refine hK2 _ _ _ (awp_keep [2] ?_)
 try clear hK2 K2
 try simp only [go_sem]
 refine awp_ret ?_
 try simp only [go_sem]
 try clear hK2 K2
 try clear hK1 K1
 refine ret_p (by simp) (by rfl) ?_ (by rfl)
 (try simp (disch := omega) only [w_i64, w_u8, w_u16, w_u32, w_u64]); simp only [go_sem] <;> (decide)

set_option maxRecDepth 20000 in
set_option maxHeartbeats 8000000 in
theorem attrs_Known_9  : ACX Go.Proofs.Tryd.prog G0 12 [.l (.int .i64 9)] [] [] (.l (.bool (knownS 9))) [] [] := by
 refine acalls_intro Go.Proofs.Tryd.func12 rfl (by kernel_rfl) Go.Proofs.Tryd.ntmps12 Go.Proofs.Tryd.results12 (by simp) rfl rfl ?_
 try simp only [go_sem]
 refine awp_seq_k fun K1 hK1 => ?_
 refine awp_regionL (by rfl) ?_
 try simp only [go_sem]
 refine hK1 _ _ _ (awp_keep [0] ?_)
 try clear hK1 K1
 try simp only [go_sem]
 refine awp_seq_k fun K2 hK2 => ?_
 refine awp_regionL (by rfl) ?_
 try simp only [go_sem]
 repeat (refine Must.au ?_; try simp only [go_sem])
 refine hK2 _ _ _ (awp_keep [2] ?_)
 try clear hK2 K2
 try simp only [go_sem]
 refine awp_ret ?_
 try simp only [go_sem]
 try clear hK2 K2
 try clear hK1 K1
 refine ret_p (by simp) (by rfl) ?_ (by rfl)
 (try simp (disch := omega) only [w_i64, w_u8, w_u16, w_u32, w_u64]); simp only [go_sem] <;> (decide)

set_option maxRecDepth 20000 in
set_option maxHeartbeats 8000000 in
theorem attrs_Known_10  : ACX Go.Proofs.Tryd.prog G0 12 [.l (.int .i64 10)] [] [] (.l (.bool (knownS 10))) [] [] := by
 refine acalls_intro Go.Proofs.Tryd.func12 rfl (by kernel_rfl) Go.Proofs.Tryd.ntmps12 Go.Proofs.Tryd.results12 (by simp) rfl rfl ?_
 try simp only [go_sem]
 refine awp_seq_k fun K1 hK1 => ?_
 refine awp_regionL (by rfl) ?_
 try simp only [go_sem]
 refine hK1 _ _ _ (awp_keep [0] ?_)
 try clear hK1 K1
 try simp only [go_sem]
 refine awp_seq_k fun K2 hK2 => ?_
 refine awp_regionL (by rfl) ?_
 try simp only [go_sem]
 repeat (refine Must.au ?_; try simp only [go_sem])
 refine hK2 _ _ _ (awp_keep [2] ?_)
 try clear hK2 K2
 try simp only [go_sem]
 refine awp_ret ?_
 try simp only [go_sem]
 try clear hK2 K2
 try clear hK1 K1
 refine ret_p (by simp) (by rfl) ?_ (by rfl)
 (try simp (disch := omega) only [w_i64, w_u8, w_u16, w_u32, w_u64]); simp only [go_sem] <;> (decide)

set_option maxRecDepth 20000 in
set_option maxHeartbeats 8000000 in
theorem attrs_Known_11  : ACX Go.Proofs.Tryd.prog G0 12 [.l (.int .i64 11)] [] [] (.l (.bool (knownS 11))) [] [] := by
 refine acalls_intro Go.Proofs.Tryd.func12 rfl (by kernel_rfl) Go.Proofs.Tryd.ntmps12 Go.Proofs.Tryd.results12 (by simp) rfl rfl ?_
 try simp only [go_sem]
 refine awp_seq_k fun K1 hK1 => ?_
 refine awp_regionL (by rfl) ?_
 try simp only [go_sem]
 refine hK1 _ _ _ (awp_keep [0] ?_)
 try clear hK1 K1
 try simp only [go_sem]
 refine awp_seq_k fun K2 hK2 => ?_
 refine awp_regionL (by rfl) ?_
 try simp only [go_sem]
 repeat (refine Must.au ?_; try simp only [go_sem])
 refine hK2 _ _ _ (awp_keep [2] ?_)
 try clear hK2 K2
 try simp only [go_sem]
 refine awp_ret ?_
 try simp only [go_sem]
 try clear hK2 K2
 try clear hK1 K1
 refine ret_p (by simp) (by rfl) ?_ (by rfl)
 (try simp (disch := omega) only [w_i64, w_u8, w_u16, w_u32, w_u64]); simp only [go_sem] <;> (decide)

set_option maxRecDepth 20000 in
set_option maxHeartbeats 8000000 in
theorem attrs_Known_12  : ACX Go.Proofs.Tryd.prog G0 12 [.l (.int .i64 12)] [] [] (.l (.bool (knownS 12))) [] [] := by
 refine acalls_intro Go.Proofs.Tryd.func12 rfl (by kernel_rfl) Go.Proofs.Tryd.ntmps12 Go.Proofs.Tryd.results12 (by simp) rfl rfl ?_
 try simp only [go_sem]
 refine awp_seq_k fun K1 hK1 => ?_
 refine awp_regionL (by rfl) ?_
 try simp only [go_sem]
 refine hK1 _ _ _ (awp_keep [0] ?_)
 try clear hK1 K1
 try simp only [go_sem]
 refine awp_seq_k fun K2 hK2 => ?_
 refine awp_regionL (by rfl) ?_
 try simp only [go_sem]
 repeat (refine Must.au ?_; try simp only [go_sem])
 refine hK2 _ _ _ (awp_keep [2] ?_)
 try clear hK2 K2
 try simp only [go_sem]
 refine awp_ret ?_
 try simp only [go_sem]
 try clear hK2 K2
 try clear hK1 K1
 refine ret_p (by simp) (by rfl) ?_ (by rfl)
 (try simp (disch := omega) only [w_i64, w_u8, w_u16, w_u32, w_u64]); simp only [go_sem] <;> (decide)

set_option maxRecDepth 20000 in
set_option maxHeartbeats 8000000 in
theorem attrs_Known_13  : ACX Go.Proofs.Tryd.prog G0 12 [.l (.int .i64 13)] [] [] (.l (.bool (knownS 13))) [] [] := by
 refine acalls_intro Go.Proofs.Tryd.func12 rfl (by kernel_rfl) Go.Proofs.Tryd.ntmps12 Go.Proofs.Tryd.results12 (by simp) rfl rfl ?_
 try simp only [go_sem]
 refine awp_seq_k fun K1 hK1 => ?_
 refine awp_regionL (by rfl) ?_
 try simp only [go_sem]
 refine hK1 _ _ _ (awp_keep [0] ?_)
 try clear hK1 K1
 try simp only [go_sem]
 refine awp_seq_k fun K2 hK2 => ?_
 refine awp_regionL (by rfl) ?_
 try simp only [go_sem]
 repeat (refine Must.au ?_; try simp only [go_sem])
 refine hK2 _ _ _ (awp_keep [2] ?_)
 try clear hK2 K2
 try simp only [go_sem]
 refine awp_ret ?_
 try simp only [go_sem]
 try clear hK2 K2
 try clear hK1 K1
 refine ret_p (by simp) (by rfl) ?_ (by rfl)
 (try simp (disch := omega) only [w_i64, w_u8, w_u16, w_u32, w_u64]); simp only [go_sem] <;> (decide)

set_option maxRecDepth 20000 in
set_option maxHeartbeats 8000000 in
theorem attrs_Known_14  : ACX Go.Proofs.Tryd.prog G0 12 [.l (.int .i64 14)] [] [] (.l (.bool (knownS 14))) [] [] := by
 refine acalls_intro Go.Proofs.Tryd.func12 rfl (by kernel_rfl) Go.Proofs.Tryd.ntmps12 Go.Proofs.Tryd.results12 (by simp) rfl rfl ?_
 try simp only [go_sem]
 refine awp_seq_k fun K1 hK1 => ?_
 refine awp_regionL (by rfl) ?_
 try simp only [go_sem]
 refine hK1 _ _ _ (awp_keep [0] ?_)
 try clear hK1 K1
 try simp only [go_sem]
 refine awp_seq_k fun K2 hK2 => ?_
 refine awp_regionL (by rfl) ?_
 try simp only [go_sem]
 repeat (refine Must.au ?_; try simp only [go_sem])
 refine hK2 _ _ _ (awp_keep [2] ?_)
 try clear hK2 K2
 try simp only [go_sem]
 refine awp_ret ?_
 try simp only [go_sem]
 try clear hK2 K2
 try clear hK1 K1
 refine ret_p (by simp) (by rfl) ?_ (by rfl)
 (try simp (disch := omega) only [w_i64, w_u8, w_u16, w_u32, w_u64]); simp only [go_sem] <;> (decide)

set_option maxRecDepth 20000 in
set_option maxHeartbeats 8000000 in
theorem attrs_Known_15  : ACX Go.Proofs.Tryd.prog G0 12 [.l (.int .i64 15)] [] [] (.l (.bool (knownS 15))) [] [] := by
 refine acalls_intro Go.Proofs.Tryd.func12 rfl (by kernel_rfl) Go.Proofs.Tryd.ntmps12 Go.Proofs.Tryd.results12 (by simp) rfl rfl ?_
 try simp only [go_sem]
 refine awp_seq_k fun K1 hK1 => ?_
 refine awp_regionL (by rfl) ?_
 try simp only [go_sem]
 refine hK1 _ _ _ (awp_keep [0] ?_)
 try clear hK1 K1
 try simp only [go_sem]
 refine awp_seq_k fun K2 hK2 => ?_
 refine awp_regionL (by rfl) ?_
 try simp only [go_sem]
 repeat (refine Must.au ?_; try simp only [go_sem])
 refine hK2 _ _ _ (awp_keep [2] ?_)
 try clear hK2 K2
 try simp only [go_sem]
 refine awp_ret ?_
 try simp only [go_sem]
 try clear hK2 K2
 try clear hK1 K1
 refine ret_p (by simp) (by rfl) ?_ (by rfl)
 (try simp (disch := omega) only [w_i64, w_u8, w_u16, w_u32, w_u64]); simp only [go_sem] <;> (decide)

set_option maxRecDepth 20000 in
set_option maxHeartbeats 8000000 in
theorem attrs_Known_16  : ACX Go.Proofs.Tryd.prog G0 12 [.l (.int .i64 16)] [] [] (.l (.bool (knownS 16))) [] [] := by
 refine acalls_intro Go.Proofs.Tryd.func12 rfl (by kernel_rfl) Go.Proofs.Tryd.ntmps12 Go.Proofs.Tryd.results12 (by simp) rfl rfl ?_
 try simp only [go_sem]
 refine awp_seq_k fun K1 hK1 => ?_
 refine awp_regionL (by rfl) ?_
 try simp only [go_sem]
 refine hK1 _ _ _ (awp_keep [0] ?_)
 try clear hK1 K1
 try simp only [go_sem]
 refine awp_seq_k fun K2 hK2 => ?_
 refine awp_regionL (by rfl) ?_
 try simp only [go_sem]
 repeat (refine Must.au ?_; try simp only [go_sem])
 refine hK2 _ _ _ (awp_keep [2] ?_)
 try clear hK2 K2
 try simp only [go_sem]
 refine awp_ret ?_
 try simp only [go_sem]
 try clear hK2 K2
 try clear hK1 K1
 refine ret_p (by simp) (by rfl) ?_ (by rfl)
 (try simp (disch := omega) only [w_i64, w_u8, w_u16, w_u32, w_u64]); simp only [go_sem] <;> (decide)

set_option maxRecDepth 20000 in
set_option maxHeartbeats 8000000 in
theorem attrs_Known_17  : ACX Go.Proofs.Tryd.prog G0 12 [.l (.int .i64 17)] [] [] (.l (.bool (knownS 17))) [] [] := by
 refine acalls_intro Go.Proofs.Tryd.func12 rfl (by kernel_rfl) Go.Proofs.Tryd.ntmps12 Go.Proofs.Tryd.results12 (by simp) rfl rfl ?_
 try simp only [go_sem]
 refine awp_seq_k fun K1 hK1 => ?_
 refine awp_regionL (by rfl) ?_
 try simp only [go_sem]
 refine hK1 _ _ _ (awp_keep [0] ?_)
 try clear hK1 K1
 try simp only [go_sem]
 refine awp_seq_k fun K2 hK2 => ?_
 refine awp_regionL (by rfl) ?_
 try simp only [go_sem]
 repeat (refine Must.au ?_; try simp only [go_sem])
 refine hK2 _ _ _ (awp_keep [2] ?_)
 try clear hK2 K2
 try simp only [go_sem]
 refine awp_ret ?_
 try simp only [go_sem]
 try clear hK2 K2
 try clear hK1 K1
 refine ret_p (by simp) (by rfl) ?_ (by rfl)
 (try simp (disch := omega) only [w_i64, w_u8, w_u16, w_u32, w_u64]); simp only [go_sem] <;> (decide)

set_option maxRecDepth 20000 in
set_option maxHeartbeats 8000000 in
theorem attrs_Known_18  : ACX Go.Proofs.Tryd.prog G0 12 [.l (.int .i64 18)] [] [] (.l (.bool (knownS 18))) [] [] := by
 refine acalls_intro Go.Proofs.Tryd.func12 rfl (by kernel_rfl) Go.Proofs.Tryd.ntmps12 Go.Proofs.Tryd.results12 (by simp) rfl rfl ?_
 try simp only [go_sem]
 refine awp_seq_k fun K1 hK1 => ?_
 refine awp_regionL (by rfl) ?_
 try simp only [go_sem]
 refine hK1 _ _ _ (awp_keep [0] ?_)
 try clear hK1 K1
 try simp only [go_sem]
 refine awp_seq_k fun K2 hK2 => ?_
 refine awp_regionL (by rfl) ?_
 try simp only [go_sem]
 repeat (refine Must.au ?_; try simp only [go_sem])
 refine hK2 _ _ _ (awp_keep [2] ?_)
 try clear hK2 K2
 try simp only [go_sem]
 refine awp_ret ?_
 try simp only [go_sem]
 try clear hK2 K2
 try clear hK1 K1
 refine ret_p (by simp) (by rfl) ?_ (by rfl)
 (try simp (disch := omega) only [w_i64, w_u8, w_u16, w_u32, w_u64]); simp only [go_sem] <;> (decide)

theorem attrs_Known_ok (k : Int) : ACX Go.Proofs.Tryd.prog G0 12 [.l (.int .i64 k)] [] [] (.l (.bool (knownS k))) [] [] := by
  have hk : k < 0 ∨ 19 ≤ k ∨ k = 0 ∨ k = 1 ∨ k = 2 ∨ k = 3 ∨ k = 4 ∨ k = 5 ∨ k = 6 ∨ k = 7 ∨ k = 8 ∨ k = 9 ∨ k = 10 ∨ k = 11 ∨ k = 12 ∨ k = 13 ∨ k = 14 ∨ k = 15 ∨ k = 16 ∨ k = 17 ∨ k = 18 := by omega
  rcases hk with hk | hk | rfl | rfl | rfl | rfl | rfl | rfl | rfl | rfl | rfl | rfl | rfl | rfl | rfl | rfl | rfl | rfl | rfl | rfl | rfl
  · have hf : flagsS k = 0 := by
      unfold flagsS
      rw [if_neg (by omega), if_neg (by omega), if_neg (by omega)]
    have h : knownS k = false := by simp [knownS, hf]
    rw [h]; exact attrs_Known_neg k hk
  · have hf : flagsS k = 0 := by
      unfold flagsS
      rw [if_neg (by omega), if_neg (by omega), if_neg (by omega)]
    have h : knownS k = false := by simp [knownS, hf]
    rw [h]; exact attrs_Known_big k hk
  · exact attrs_Known_0
  · exact attrs_Known_1
  · exact attrs_Known_2
  · exact attrs_Known_3
  · exact attrs_Known_4
  · exact attrs_Known_5
  · exact attrs_Known_6
  · exact attrs_Known_7
  · exact attrs_Known_8
  · exact attrs_Known_9
  · exact attrs_Known_10
  · exact attrs_Known_11
  · exact attrs_Known_12
  · exact attrs_Known_13
  · exact attrs_Known_14
  · exact attrs_Known_15
  · exact attrs_Known_16
  · exact attrs_Known_17
  · exact attrs_Known_18

end Go.Abs
