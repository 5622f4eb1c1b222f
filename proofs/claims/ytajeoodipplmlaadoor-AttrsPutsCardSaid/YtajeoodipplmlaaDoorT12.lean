/-
  THE LAWS OF LAYER 4: whether attributes may be; when two are the same.
-/
import Derived.Test.YtajeoodipplmlaaDoorT11
import Derived.Test.YtajeoodipplmlaaDoorA1
set_option linter.all false
namespace Go.Abs
open Go Go.Proofs
theorem rawsB_zero : rawsB zeroS.raws := by intro r hr; cases hr

set_option maxRecDepth 20000 in
set_option maxHeartbeats 8000000 in
theorem law_AttrsRight_ok (a : Attrs) (k n : Int) (h0 : 0 ≤ n) (h1 : n < 4294967296) : ACX Go.Proofs.Tryd.prog G0 3 [.agg a.cells, .l (.int .i64 k), .l (.int .u32 n)] [] [] (.l (.bool true)) [] [] := by
  refine acalls_intro Go.Proofs.Tryd.func3 rfl (by kernel_rfl) Go.Proofs.Tryd.ntmps3 Go.Proofs.Tryd.results3 (by simp) rfl rfl ?_
  try simp only [go_sem, Attrs.cells, segs, u32s, raws]
  refine awp_seq_k fun K1 hK1 => ?_
  refine awp_regionL (by rfl) ?_
  try simp only [go_sem, Attrs.cells, segs, u32s, raws]
  refine hK1 _ _ _ (awp_keep [1, 2, 3] ?_)
  try clear hK1 K1
  try simp only [go_sem, Attrs.cells, segs, u32s, raws]
  refine awp_seq_k fun K2 hK2 => ?_
  refine awp_seq_k fun K3 hK3 => ?_
  refine awp_regionL (by rfl) ?_
  try simp only [go_sem, Attrs.cells, segs, u32s, raws]
  refine acall_p (law04_Few_ok a) (by first | exact ⟨rfl, trivial⟩ | exact ⟨rfl, rfl, trivial⟩ | exact ⟨rfl, rfl, rfl, trivial⟩ | (simp only [go_sem, Attrs.cells, segs, u32s, raws]; done) | (simp only [go_sem, Attrs.cells, segs, u32s, raws] <;> (repeat' apply And.intro) <;> first | rfl | omega | trivial)) ?_
  try simp only [go_sem, Attrs.cells, segs, u32s, raws]
  refine hK3 _ _ _ (awp_keep [1, 2, 3, 9] ?_)
  try clear hK3 K3
  try simp only [go_sem, Attrs.cells, segs, u32s, raws]
  refine awp_cond (by rfl) (fun hc0 => ?_) (fun hc0 => ?_)
  · skip
    try simp only [decide_eq_true_eq, decide_eq_false_iff_not, Bool.not_eq_true', Bool.not_eq_false', Bool.and_eq_true, Bool.or_eq_true, Bool.or_eq_false_iff, Bool.and_eq_false_imp] at hc0
    refine awp_seq_k fun K4 hK4 => ?_
    refine awp_regionL (by rfl) ?_
    try simp only [go_sem, Attrs.cells, segs, u32s, raws]
    refine acall_p (law04_awake_ok) (by first | exact ⟨rfl, trivial⟩ | exact ⟨rfl, rfl, trivial⟩ | exact ⟨rfl, rfl, rfl, trivial⟩ | (simp only [go_sem, Attrs.cells, segs, u32s, raws]; done) | (simp only [go_sem, Attrs.cells, segs, u32s, raws] <;> (repeat' apply And.intro) <;> first | rfl | omega | trivial)) ?_
    try simp only [go_sem, Attrs.cells, segs, u32s, raws]
    refine hK4 _ _ _ (awp_keep [6] ?_)
    try clear hK4 K4
    try simp only [go_sem, Attrs.cells, segs, u32s, raws]
    refine awp_ret ?_
    try simp only [go_sem, Attrs.cells, segs, u32s, raws]
    try clear hK4 K4
    try clear hK3 K3
    try clear hK2 K2
    try clear hK1 K1
    refine ret_p (by simp) (by rfl) ?_ (by rfl)
    (try simp (disch := omega) only [w_i64, w_u8, w_u16, w_u32, w_u64]); simp only [go_sem, Attrs.cells, segs, u32s, raws] <;> (simp [knownS])
  · skip
    try simp only [decide_eq_true_eq, decide_eq_false_iff_not, Bool.not_eq_true', Bool.not_eq_false', Bool.and_eq_true, Bool.or_eq_true, Bool.or_eq_false_iff, Bool.and_eq_false_imp] at hc0
    refine awp_skip ?_
    try simp only [go_sem, Attrs.cells, segs, u32s, raws]
    refine hK2 _ _ _ (awp_keep [1, 2, 3] ?_)
    try clear hK2 K2
    try simp only [go_sem, Attrs.cells, segs, u32s, raws]
    refine awp_seq_k fun K5 hK5 => ?_
    refine awp_drawP (by kernel_rfl) (by rfl) (by kernel_rfl) (fun _ => true) (.early 0 (.early 2 (.last 1 (.late 3 (.early 4 (.early 5 (.early 6 (.early 8 (.last 7 (.late 9 (.early 10 (.early 11 (.early 12 (.early 13 (.early 14 (.early 16 (.last 15 (.late 17 (.early 18 (.early 19 (.early 20 (.late 21 (.late 22 (.late 23 (.early 24 (.early 25 (.late 26 (.early 27 (.early 28 .done))))))))))))))))))))))))))))) (by kernel_rfl) (fun _ _ _ _ => by simp only [go_sem, not_false_eq_true]) ?_
    try simp only [go_sem, Attrs.cells, segs, u32s, raws]
    refine acall_p (attrs_Right_ok a) (by first | exact ⟨rfl, trivial⟩ | exact ⟨rfl, rfl, trivial⟩ | exact ⟨rfl, rfl, rfl, trivial⟩ | (simp only [go_sem, Attrs.cells, segs, u32s, raws]; done) | (simp only [go_sem, Attrs.cells, segs, u32s, raws] <;> (repeat' apply And.intro) <;> first | rfl | omega | trivial)) ?_
    try simp only [go_sem, Attrs.cells, segs, u32s, raws]
    repeat (refine Must.intro (by intro hh; first | exact hh | exact ⟨hh, hh⟩ | exact ⟨hh, fun h2 => ⟨hh, h2⟩⟩ | (simp [hh]; done) | (simp only [Bool.and_eq_true, Bool.or_eq_false_iff, Bool.not_eq_true', Bool.not_eq_false', decide_eq_true_eq, decide_eq_false_iff_not] at hh ⊢; first | exact hh | exact hh.1 | exact hh.2 | exact ⟨hh, hh⟩ | exact ⟨hh.1, hh.1⟩ | exact ⟨hh.2, hh.2⟩ | exact ⟨hh.1, hh.2⟩ | exact hh.1.1 | exact hh.1.2 | (simp [hh]; done))) ?_; try simp only [go_sem])
    refine acall_p (ref04_Right_ok a) (by first | exact ⟨rfl, trivial⟩ | exact ⟨rfl, rfl, trivial⟩ | exact ⟨rfl, rfl, rfl, trivial⟩ | (simp only [go_sem, Attrs.cells, segs, u32s, raws]; done) | (simp only [go_sem, Attrs.cells, segs, u32s, raws] <;> (repeat' apply And.intro) <;> first | rfl | omega | trivial)) ?_
    try simp only [go_sem, Attrs.cells, segs, u32s, raws]
    repeat (refine Must.intro (by intro hh; first | exact hh | exact ⟨hh, hh⟩ | exact ⟨hh, fun h2 => ⟨hh, h2⟩⟩ | (simp [hh]; done) | (simp only [Bool.and_eq_true, Bool.or_eq_false_iff, Bool.not_eq_true', Bool.not_eq_false', decide_eq_true_eq, decide_eq_false_iff_not] at hh ⊢; first | exact hh | exact hh.1 | exact hh.2 | exact ⟨hh, hh⟩ | exact ⟨hh.1, hh.1⟩ | exact ⟨hh.2, hh.2⟩ | exact ⟨hh.1, hh.2⟩ | exact hh.1.1 | exact hh.1.2 | (simp [hh]; done))) ?_; try simp only [go_sem])
    refine gcall_p ?_ (by rfl) (by simp only [go_sem, Attrs.cells, segs, u32s, raws]; rfl) (fun hg => ⟨attrs_Known_ok k, by simp only [hg, go_sem, Attrs.cells, segs, u32s, raws]⟩) ?_
    · rfl
    try simp only [go_sem, Attrs.cells, segs, u32s, raws]
    repeat (refine Must.intro (by intro hh; first | exact hh | exact ⟨hh, hh⟩ | exact ⟨hh, fun h2 => ⟨hh, h2⟩⟩ | (simp [hh]; done) | (simp only [Bool.and_eq_true, Bool.or_eq_false_iff, Bool.not_eq_true', Bool.not_eq_false', decide_eq_true_eq, decide_eq_false_iff_not] at hh ⊢; first | exact hh | exact hh.1 | exact hh.2 | exact ⟨hh, hh⟩ | exact ⟨hh.1, hh.1⟩ | exact ⟨hh.2, hh.2⟩ | exact ⟨hh.1, hh.2⟩ | exact hh.1.1 | exact hh.1.2 | (simp [hh]; done))) ?_; try simp only [go_sem])
    refine gcall_p ?_ (by rfl) (by simp only [go_sem, Attrs.cells, segs, u32s, raws]; rfl) (fun hg => ⟨ref04_Flags_ok k, by simp only [hg, go_sem, Attrs.cells, segs, u32s, raws]⟩) ?_
    · rfl
    try simp only [go_sem, Attrs.cells, segs, u32s, raws]
    repeat (refine Must.intro (by intro hh; first | exact hh | exact ⟨hh, hh⟩ | exact ⟨hh, fun h2 => ⟨hh, h2⟩⟩ | (simp [hh]; done) | (simp only [Bool.and_eq_true, Bool.or_eq_false_iff, Bool.not_eq_true', Bool.not_eq_false', decide_eq_true_eq, decide_eq_false_iff_not] at hh ⊢; first | exact hh | exact hh.1 | exact hh.2 | exact ⟨hh, hh⟩ | exact ⟨hh.1, hh.1⟩ | exact ⟨hh.2, hh.2⟩ | exact ⟨hh.1, hh.2⟩ | exact hh.1.1 | exact hh.1.2 | (simp [hh]; done))) ?_; try simp only [go_sem])
    refine gcall_p ?_ (by rfl) (by simp only [go_sem, Attrs.cells, segs, u32s, raws]; rfl) (fun hg => ⟨attrs_Next_ok n h0 h1, by simp only [hg, go_sem, Attrs.cells, segs, u32s, raws]⟩) ?_
    · rfl
    try simp only [go_sem, Attrs.cells, segs, u32s, raws]
    repeat (refine Must.intro (by intro hh; first | exact hh | exact ⟨hh, hh⟩ | exact ⟨hh, fun h2 => ⟨hh, h2⟩⟩ | (simp [hh]; done) | (simp only [Bool.and_eq_true, Bool.or_eq_false_iff, Bool.not_eq_true', Bool.not_eq_false', decide_eq_true_eq, decide_eq_false_iff_not] at hh ⊢; first | exact hh | exact hh.1 | exact hh.2 | exact ⟨hh, hh⟩ | exact ⟨hh.1, hh.1⟩ | exact ⟨hh.2, hh.2⟩ | exact ⟨hh.1, hh.2⟩ | exact hh.1.1 | exact hh.1.2 | (simp [hh]; done))) ?_; try simp only [go_sem])
    refine gcall_p ?_ (by rfl) (by simp only [go_sem, Attrs.cells, segs, u32s, raws]; rfl) (fun hg => ⟨ref04_Next_ok n h0 h1, by simp only [hg, go_sem, Attrs.cells, segs, u32s, raws]⟩) ?_
    · rfl
    try simp only [go_sem, Attrs.cells, segs, u32s, raws]
    repeat (refine Must.intro (by intro hh; first | exact hh | exact ⟨hh, hh⟩ | exact ⟨hh, fun h2 => ⟨hh, h2⟩⟩ | (simp [hh]; done) | (simp only [Bool.and_eq_true, Bool.or_eq_false_iff, Bool.not_eq_true', Bool.not_eq_false', decide_eq_true_eq, decide_eq_false_iff_not] at hh ⊢; first | exact hh | exact hh.1 | exact hh.2 | exact ⟨hh, hh⟩ | exact ⟨hh.1, hh.1⟩ | exact ⟨hh.2, hh.2⟩ | exact ⟨hh.1, hh.2⟩ | exact hh.1.1 | exact hh.1.2 | (simp [hh]; done))) ?_; try simp only [go_sem])
    refine gcall_p ?_ (by rfl) (by simp only [go_sem, Attrs.cells, segs, u32s, raws]; rfl) (fun hg => ⟨attrs_Zero_ok, by simp only [hg, go_sem, Attrs.cells, segs, u32s, raws]⟩) ?_
    · rfl
    try simp only [go_sem, Attrs.cells, segs, u32s, raws]
    repeat (refine Must.intro (by intro hh; first | exact hh | exact ⟨hh, hh⟩ | exact ⟨hh, fun h2 => ⟨hh, h2⟩⟩ | (simp [hh]; done) | (simp only [Bool.and_eq_true, Bool.or_eq_false_iff, Bool.not_eq_true', Bool.not_eq_false', decide_eq_true_eq, decide_eq_false_iff_not] at hh ⊢; first | exact hh | exact hh.1 | exact hh.2 | exact ⟨hh, hh⟩ | exact ⟨hh.1, hh.1⟩ | exact ⟨hh.2, hh.2⟩ | exact ⟨hh.1, hh.2⟩ | exact hh.1.1 | exact hh.1.2 | (simp [hh]; done))) ?_; try simp only [go_sem])
    refine gcall_p ?_ (by rfl) (by simp only [go_sem, Attrs.cells, segs, u32s, raws]; rfl) (fun hg => ⟨ref04_Zero_ok, by simp only [hg, go_sem, Attrs.cells, segs, u32s, raws]⟩) ?_
    · rfl
    try simp only [go_sem, Attrs.cells, segs, u32s, raws]
    repeat (refine Must.intro (by intro hh; first | exact hh | exact ⟨hh, hh⟩ | exact ⟨hh, fun h2 => ⟨hh, h2⟩⟩ | (simp [hh]; done) | (simp only [Bool.and_eq_true, Bool.or_eq_false_iff, Bool.not_eq_true', Bool.not_eq_false', decide_eq_true_eq, decide_eq_false_iff_not] at hh ⊢; first | exact hh | exact hh.1 | exact hh.2 | exact ⟨hh, hh⟩ | exact ⟨hh.1, hh.1⟩ | exact ⟨hh.2, hh.2⟩ | exact ⟨hh.1, hh.2⟩ | exact hh.1.1 | exact hh.1.2 | (simp [hh]; done))) ?_; try simp only [go_sem])
    refine gcall_p ?_ (by rfl) (by simp only [go_sem, Attrs.cells, segs, u32s, raws]; rfl) (fun hg => ⟨ref04_Same_ok zeroS zeroS rawsB_zero rawsB_zero, by simp only [hg, go_sem, Attrs.cells, segs, u32s, raws]⟩) ?_
    · rfl
    try simp only [go_sem, Attrs.cells, segs, u32s, raws]
    repeat (refine Must.intro (by intro hh; first | exact hh | exact ⟨hh, hh⟩ | exact ⟨hh, fun h2 => ⟨hh, h2⟩⟩ | (simp [hh]; done) | (simp only [Bool.and_eq_true, Bool.or_eq_false_iff, Bool.not_eq_true', Bool.not_eq_false', decide_eq_true_eq, decide_eq_false_iff_not] at hh ⊢; first | exact hh | exact hh.1 | exact hh.2 | exact ⟨hh, hh⟩ | exact ⟨hh.1, hh.1⟩ | exact ⟨hh.2, hh.2⟩ | exact ⟨hh.1, hh.2⟩ | exact hh.1.1 | exact hh.1.2 | (simp [hh]; done))) ?_; try simp only [go_sem])
    refine gcall_p ?_ (by rfl) (by simp only [go_sem, Attrs.cells, segs, u32s, raws]; rfl) (fun hg => ⟨law04_awake_ok, by simp only [hg, go_sem, Attrs.cells, segs, u32s, raws]⟩) ?_
    · rfl
    try simp only [go_sem, Attrs.cells, segs, u32s, raws]
    repeat (refine Must.intro (by intro hh; first | exact hh | exact ⟨hh, hh⟩ | exact ⟨hh, fun h2 => ⟨hh, h2⟩⟩ | (simp [hh]; done) | (simp only [Bool.and_eq_true, Bool.or_eq_false_iff, Bool.not_eq_true', Bool.not_eq_false', decide_eq_true_eq, decide_eq_false_iff_not] at hh ⊢; first | exact hh | exact hh.1 | exact hh.2 | exact ⟨hh, hh⟩ | exact ⟨hh.1, hh.1⟩ | exact ⟨hh.2, hh.2⟩ | exact ⟨hh.1, hh.2⟩ | exact hh.1.1 | exact hh.1.2 | (simp [hh]; done))) ?_; try simp only [go_sem])
    repeat (refine Must.intro (by intro hh; first | exact hh | exact ⟨hh, hh⟩ | exact ⟨hh, fun h2 => ⟨hh, h2⟩⟩ | (simp [hh]; done) | (simp only [Bool.and_eq_true, Bool.or_eq_false_iff, Bool.not_eq_true', Bool.not_eq_false', decide_eq_true_eq, decide_eq_false_iff_not] at hh ⊢; first | exact hh | exact hh.1 | exact hh.2 | exact ⟨hh, hh⟩ | exact ⟨hh.1, hh.1⟩ | exact ⟨hh.2, hh.2⟩ | exact ⟨hh.1, hh.2⟩ | exact hh.1.1 | exact hh.1.2 | (simp [hh]; done))) ?_; try simp only [go_sem])
    refine hK5 _ _ _ (awp_keep [6] ?_)
    try clear hK5 K5
    try simp only [go_sem, Attrs.cells, segs, u32s, raws]
    refine awp_ret ?_
    try simp only [go_sem, Attrs.cells, segs, u32s, raws]
    try clear hK5 K5
    try clear hK4 K4
    try clear hK3 K3
    try clear hK2 K2
    try clear hK1 K1
    refine ret_p (by simp) (by rfl) ?_ (by rfl)
    (try simp (disch := omega) only [w_i64, w_u8, w_u16, w_u32, w_u64]); simp only [go_sem, Attrs.cells, segs, u32s, raws] <;> (simp [knownS])

set_option maxRecDepth 20000 in
set_option maxHeartbeats 8000000 in
theorem law_AttrsSame_ok (a b : Attrs) (ha : rawsB a.raws) (hb : rawsB b.raws) : ACX Go.Proofs.Tryd.prog G0 4 [.agg a.cells, .agg b.cells] [] [] (.l (.bool true)) [] [] := by
  refine acalls_intro Go.Proofs.Tryd.func4 rfl (by kernel_rfl) Go.Proofs.Tryd.ntmps4 Go.Proofs.Tryd.results4 (by simp) rfl rfl ?_
  try simp only [go_sem, Attrs.cells, segs, u32s, raws]
  refine awp_seq_k fun K1 hK1 => ?_
  refine awp_regionL (by rfl) ?_
  try simp only [go_sem, Attrs.cells, segs, u32s, raws]
  refine hK1 _ _ _ (awp_keep [2, 3] ?_)
  try clear hK1 K1
  try simp only [go_sem, Attrs.cells, segs, u32s, raws]
  refine awp_seq_k fun K2 hK2 => ?_
  refine awp_seq_k fun K3 hK3 => ?_
  refine awp_regionL (by rfl) ?_
  try simp only [go_sem, Attrs.cells, segs, u32s, raws]
  refine acall_p (law04_Few_ok a) (by first | exact ⟨rfl, trivial⟩ | exact ⟨rfl, rfl, trivial⟩ | exact ⟨rfl, rfl, rfl, trivial⟩ | (simp only [go_sem, Attrs.cells, segs, u32s, raws]; done) | (simp only [go_sem, Attrs.cells, segs, u32s, raws] <;> (repeat' apply And.intro) <;> first | rfl | omega | trivial)) ?_
  try simp only [go_sem, Attrs.cells, segs, u32s, raws]
  repeat (refine Must.intro (by intro hh; first | exact hh | exact ⟨hh, hh⟩ | exact ⟨hh, fun h2 => ⟨hh, h2⟩⟩ | (simp [hh]; done) | (simp only [Bool.and_eq_true, Bool.or_eq_false_iff, Bool.not_eq_true', Bool.not_eq_false', decide_eq_true_eq, decide_eq_false_iff_not] at hh ⊢; first | exact hh | exact hh.1 | exact hh.2 | exact ⟨hh, hh⟩ | exact ⟨hh.1, hh.1⟩ | exact ⟨hh.2, hh.2⟩ | exact ⟨hh.1, hh.2⟩ | exact hh.1.1 | exact hh.1.2 | (simp [hh]; done))) ?_; try simp only [go_sem])
  refine gcall_p ?_ (by rfl) (by simp only [go_sem, Attrs.cells, segs, u32s, raws]; rfl) (fun hg => ⟨law04_Few_ok b, by simp only [hg, go_sem, Attrs.cells, segs, u32s, raws]⟩) ?_
  · rfl
  try simp only [go_sem, Attrs.cells, segs, u32s, raws]
  repeat (refine Must.intro (by intro hh; first | exact hh | exact ⟨hh, hh⟩ | exact ⟨hh, fun h2 => ⟨hh, h2⟩⟩ | (simp [hh]; done) | (simp only [Bool.and_eq_true, Bool.or_eq_false_iff, Bool.not_eq_true', Bool.not_eq_false', decide_eq_true_eq, decide_eq_false_iff_not] at hh ⊢; first | exact hh | exact hh.1 | exact hh.2 | exact ⟨hh, hh⟩ | exact ⟨hh.1, hh.1⟩ | exact ⟨hh.2, hh.2⟩ | exact ⟨hh.1, hh.2⟩ | exact hh.1.1 | exact hh.1.2 | (simp [hh]; done))) ?_; try simp only [go_sem])
  repeat (refine Must.intro (by intro hh; first | exact hh | exact ⟨hh, hh⟩ | exact ⟨hh, fun h2 => ⟨hh, h2⟩⟩ | (simp [hh]; done) | (simp only [Bool.and_eq_true, Bool.or_eq_false_iff, Bool.not_eq_true', Bool.not_eq_false', decide_eq_true_eq, decide_eq_false_iff_not] at hh ⊢; first | exact hh | exact hh.1 | exact hh.2 | exact ⟨hh, hh⟩ | exact ⟨hh.1, hh.1⟩ | exact ⟨hh.2, hh.2⟩ | exact ⟨hh.1, hh.2⟩ | exact hh.1.1 | exact hh.1.2 | (simp [hh]; done))) ?_; try simp only [go_sem])
  refine hK3 _ _ _ (awp_keep [2, 3, 12] ?_)
  try clear hK3 K3
  try simp only [go_sem, Attrs.cells, segs, u32s, raws]
  refine awp_cond (by rfl) (fun hc0 => ?_) (fun hc0 => ?_)
  · skip
    try simp only [decide_eq_true_eq, decide_eq_false_iff_not, Bool.not_eq_true', Bool.not_eq_false', Bool.and_eq_true, Bool.or_eq_true, Bool.or_eq_false_iff, Bool.and_eq_false_imp] at hc0
    refine awp_seq_k fun K4 hK4 => ?_
    refine awp_regionL (by rfl) ?_
    try simp only [go_sem, Attrs.cells, segs, u32s, raws]
    refine acall_p (law04_awake_ok) (by first | exact ⟨rfl, trivial⟩ | exact ⟨rfl, rfl, trivial⟩ | exact ⟨rfl, rfl, rfl, trivial⟩ | (simp only [go_sem, Attrs.cells, segs, u32s, raws]; done) | (simp only [go_sem, Attrs.cells, segs, u32s, raws] <;> (repeat' apply And.intro) <;> first | rfl | omega | trivial)) ?_
    try simp only [go_sem, Attrs.cells, segs, u32s, raws]
    refine hK4 _ _ _ (awp_keep [4] ?_)
    try clear hK4 K4
    try simp only [go_sem, Attrs.cells, segs, u32s, raws]
    refine awp_ret ?_
    try simp only [go_sem, Attrs.cells, segs, u32s, raws]
    try clear hK4 K4
    try clear hK3 K3
    try clear hK2 K2
    try clear hK1 K1
    refine ret_p (by simp) (by rfl) ?_ (by rfl)
    (try simp (disch := omega) only [w_i64, w_u8, w_u16, w_u32, w_u64]); simp only [go_sem, Attrs.cells, segs, u32s, raws] <;> (simp [eq_comm])
  · skip
    try simp only [decide_eq_true_eq, decide_eq_false_iff_not, Bool.not_eq_true', Bool.not_eq_false', Bool.and_eq_true, Bool.or_eq_true, Bool.or_eq_false_iff, Bool.and_eq_false_imp] at hc0
    refine awp_skip ?_
    try simp only [go_sem, Attrs.cells, segs, u32s, raws]
    refine hK2 _ _ _ (awp_keep [2, 3] ?_)
    try clear hK2 K2
    try simp only [go_sem, Attrs.cells, segs, u32s, raws]
    refine awp_seq_k fun K5 hK5 => ?_
    refine awp_drawP (by kernel_rfl) (by rfl) (by kernel_rfl) (fun _ => true) (.early 0 (.early 1 (.early 3 (.early 4 (.last 2 (.late 5 (.early 6 (.early 7 (.early 8 (.early 9 (.late 10 (.early 11 (.early 12 (.early 13 (.early 14 (.early 16 (.early 17 (.last 15 (.late 18 (.early 19 (.early 20 (.early 21 (.late 22 (.early 23 (.early 24 .done))))))))))))))))))))))))) (by kernel_rfl) (fun _ _ _ _ => by simp only [go_sem, not_false_eq_true]) ?_
    try simp only [go_sem, Attrs.cells, segs, u32s, raws]
    refine acall_p (attrs_Same_ok a b) (by first | exact ⟨rfl, trivial⟩ | exact ⟨rfl, rfl, trivial⟩ | exact ⟨rfl, rfl, rfl, trivial⟩ | (simp only [go_sem, Attrs.cells, segs, u32s, raws]; done) | (simp only [go_sem, Attrs.cells, segs, u32s, raws] <;> (repeat' apply And.intro) <;> first | rfl | omega | trivial)) ?_
    try simp only [go_sem, Attrs.cells, segs, u32s, raws]
    repeat (refine Must.intro (by intro hh; first | exact hh | exact ⟨hh, hh⟩ | exact ⟨hh, fun h2 => ⟨hh, h2⟩⟩ | (simp [hh]; done) | (simp only [Bool.and_eq_true, Bool.or_eq_false_iff, Bool.not_eq_true', Bool.not_eq_false', decide_eq_true_eq, decide_eq_false_iff_not] at hh ⊢; first | exact hh | exact hh.1 | exact hh.2 | exact ⟨hh, hh⟩ | exact ⟨hh.1, hh.1⟩ | exact ⟨hh.2, hh.2⟩ | exact ⟨hh.1, hh.2⟩ | exact hh.1.1 | exact hh.1.2 | (simp [hh]; done))) ?_; try simp only [go_sem])
    refine acall_p (ref04_Same_ok a b ha hb) (by first | exact ⟨rfl, trivial⟩ | exact ⟨rfl, rfl, trivial⟩ | exact ⟨rfl, rfl, rfl, trivial⟩ | (simp only [go_sem, Attrs.cells, segs, u32s, raws]; done) | (simp only [go_sem, Attrs.cells, segs, u32s, raws] <;> (repeat' apply And.intro) <;> first | rfl | omega | trivial)) ?_
    try simp only [go_sem, Attrs.cells, segs, u32s, raws]
    repeat (refine Must.intro (by intro hh; first | exact hh | exact ⟨hh, hh⟩ | exact ⟨hh, fun h2 => ⟨hh, h2⟩⟩ | (simp [hh]; done) | (simp only [Bool.and_eq_true, Bool.or_eq_false_iff, Bool.not_eq_true', Bool.not_eq_false', decide_eq_true_eq, decide_eq_false_iff_not] at hh ⊢; first | exact hh | exact hh.1 | exact hh.2 | exact ⟨hh, hh⟩ | exact ⟨hh.1, hh.1⟩ | exact ⟨hh.2, hh.2⟩ | exact ⟨hh.1, hh.2⟩ | exact hh.1.1 | exact hh.1.2 | (simp [hh]; done))) ?_; try simp only [go_sem])
    refine gcall_p ?_ (by rfl) (by simp only [go_sem, Attrs.cells, segs, u32s, raws]; rfl) (fun hg => ⟨attrs_Same_ok a a, by simp only [hg, go_sem, Attrs.cells, segs, u32s, raws]⟩) ?_
    · rfl
    try simp only [go_sem, Attrs.cells, segs, u32s, raws]
    repeat (refine Must.intro (by intro hh; first | exact hh | exact ⟨hh, hh⟩ | exact ⟨hh, fun h2 => ⟨hh, h2⟩⟩ | (simp [hh]; done) | (simp only [Bool.and_eq_true, Bool.or_eq_false_iff, Bool.not_eq_true', Bool.not_eq_false', decide_eq_true_eq, decide_eq_false_iff_not] at hh ⊢; first | exact hh | exact hh.1 | exact hh.2 | exact ⟨hh, hh⟩ | exact ⟨hh.1, hh.1⟩ | exact ⟨hh.2, hh.2⟩ | exact ⟨hh.1, hh.2⟩ | exact hh.1.1 | exact hh.1.2 | (simp [hh]; done))) ?_; try simp only [go_sem])
    refine gcall_p ?_ (by rfl) (by simp only [go_sem, Attrs.cells, segs, u32s, raws]; rfl) (fun hg => ⟨attrs_Same_ok b a, by simp only [hg, go_sem, Attrs.cells, segs, u32s, raws]⟩) ?_
    · rfl
    try simp only [go_sem, Attrs.cells, segs, u32s, raws]
    repeat (refine Must.intro (by intro hh; first | exact hh | exact ⟨hh, hh⟩ | exact ⟨hh, fun h2 => ⟨hh, h2⟩⟩ | (simp [hh]; done) | (simp only [Bool.and_eq_true, Bool.or_eq_false_iff, Bool.not_eq_true', Bool.not_eq_false', decide_eq_true_eq, decide_eq_false_iff_not] at hh ⊢; first | exact hh | exact hh.1 | exact hh.2 | exact ⟨hh, hh⟩ | exact ⟨hh.1, hh.1⟩ | exact ⟨hh.2, hh.2⟩ | exact ⟨hh.1, hh.2⟩ | exact hh.1.1 | exact hh.1.2 | (simp [hh]; done))) ?_; try simp only [go_sem])
    refine gcall_p ?_ (by rfl) (by simp only [go_sem, Attrs.cells, segs, u32s, raws]; rfl) (fun hg => ⟨ref04_Same_ok a b ha hb, by simp only [hg, go_sem, Attrs.cells, segs, u32s, raws]⟩) ?_
    · rfl
    try simp only [go_sem, Attrs.cells, segs, u32s, raws]
    repeat (refine Must.intro (by intro hh; first | exact hh | exact ⟨hh, hh⟩ | exact ⟨hh, fun h2 => ⟨hh, h2⟩⟩ | (simp [hh]; done) | (simp only [Bool.and_eq_true, Bool.or_eq_false_iff, Bool.not_eq_true', Bool.not_eq_false', decide_eq_true_eq, decide_eq_false_iff_not] at hh ⊢; first | exact hh | exact hh.1 | exact hh.2 | exact ⟨hh, hh⟩ | exact ⟨hh.1, hh.1⟩ | exact ⟨hh.2, hh.2⟩ | exact ⟨hh.1, hh.2⟩ | exact hh.1.1 | exact hh.1.2 | (simp [hh]; done))) ?_; try simp only [go_sem])
    refine gcall_p ?_ (by rfl) (by simp only [go_sem, Attrs.cells, segs, u32s, raws]; rfl) (fun hg => ⟨law04_awake_ok, by simp only [hg, go_sem, Attrs.cells, segs, u32s, raws]⟩) ?_
    · rfl
    try simp only [go_sem, Attrs.cells, segs, u32s, raws]
    repeat (refine Must.intro (by intro hh; first | exact hh | exact ⟨hh, hh⟩ | exact ⟨hh, fun h2 => ⟨hh, h2⟩⟩ | (simp [hh]; done) | (simp only [Bool.and_eq_true, Bool.or_eq_false_iff, Bool.not_eq_true', Bool.not_eq_false', decide_eq_true_eq, decide_eq_false_iff_not] at hh ⊢; first | exact hh | exact hh.1 | exact hh.2 | exact ⟨hh, hh⟩ | exact ⟨hh.1, hh.1⟩ | exact ⟨hh.2, hh.2⟩ | exact ⟨hh.1, hh.2⟩ | exact hh.1.1 | exact hh.1.2 | (simp [hh]; done))) ?_; try simp only [go_sem])
    repeat (refine Must.intro (by intro hh; first | exact hh | exact ⟨hh, hh⟩ | exact ⟨hh, fun h2 => ⟨hh, h2⟩⟩ | (simp [hh]; done) | (simp only [Bool.and_eq_true, Bool.or_eq_false_iff, Bool.not_eq_true', Bool.not_eq_false', decide_eq_true_eq, decide_eq_false_iff_not] at hh ⊢; first | exact hh | exact hh.1 | exact hh.2 | exact ⟨hh, hh⟩ | exact ⟨hh.1, hh.1⟩ | exact ⟨hh.2, hh.2⟩ | exact ⟨hh.1, hh.2⟩ | exact hh.1.1 | exact hh.1.2 | (simp [hh]; done))) ?_; try simp only [go_sem])
    refine hK5 _ _ _ (awp_keep [4] ?_)
    try clear hK5 K5
    try simp only [go_sem, Attrs.cells, segs, u32s, raws]
    refine awp_ret ?_
    try simp only [go_sem, Attrs.cells, segs, u32s, raws]
    try clear hK5 K5
    try clear hK4 K4
    try clear hK3 K3
    try clear hK2 K2
    try clear hK1 K1
    refine ret_p (by simp) (by rfl) ?_ (by rfl)
    (try simp (disch := omega) only [w_i64, w_u8, w_u16, w_u32, w_u64]); simp only [go_sem, Attrs.cells, segs, u32s, raws] <;> (simp [eq_comm])

end Go.Abs
