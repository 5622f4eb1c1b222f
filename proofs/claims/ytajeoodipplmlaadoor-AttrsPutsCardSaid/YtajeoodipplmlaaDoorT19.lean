/-
  THE LAW OF LAYER 4: what attributes' bytes are.
-/
import Derived.Test.YtajeoodipplmlaaDoorT18
import Derived.Test.YtajeoodipplmlaaDoorT12
set_option linter.all false
namespace Go.Abs
open Go Go.Proofs
theorem isB_nil : isB [] := by intro x hx; cases hx
theorem isB_append {a b : List Int} (ha : isB a) (hb : isB b) : isB (a ++ b) := by
  intro x hx
  rcases List.mem_append.1 hx with h | h
  · exact ha x h
  · exact hb x h
theorem isB_cons {x : Int} {a : List Int} (hx : 0 ≤ x ∧ x < 256) (ha : isB a) : isB (x :: a) := by
  intro y hy
  rcases List.mem_cons.1 hy with rfl | h
  · exact hx
  · exact ha y h
theorem isB_opt {c : Bool} {a : List Int} (h : isB a) : isB (opt c a) := by
  cases c
  · exact isB_nil
  · exact h
theorem isB_flatMap {α : Type} {f : α → List Int} {l : List α} (h : ∀ x ∈ l, isB (f x)) : isB (l.flatMap f) := by
  intro y hy
  obtain ⟨x, hx, hy⟩ := List.mem_flatMap.1 hy
  exact h x hx y hy
theorem u8_range (n : Int) : 0 ≤ IntKind.u8.wrap n ∧ IntKind.u8.wrap n < 256 := by rw [IntKind.wrap_u8]; omega
theorem isB_put16 (n : Int) : isB (put16S n) := isB_cons (by omega) (isB_cons (by omega) isB_nil)
theorem isB_put32 (n : Int) : isB (put32S n) := isB_append (isB_put16 _) (isB_put16 _)
theorem isB_num (w : Bool) (n : Int) : isB (numS w n) := by
  unfold numS
  split
  · exact isB_put32 _
  · split <;> exact isB_put16 _
theorem isB_path (w : Bool) (l : List Seg) : isB (pathS w l) := isB_flatMap fun s _ => isB_append (isB_cons (u8_range _) (isB_cons (u8_range _) isB_nil)) (isB_flatMap fun n _ => isB_num w n)
theorem isB_attr {f k : Int} {v : List Int} (hf : flagOk f) (hv : isB v) : isB (attrS f k v) := by
  have hfb : 0 ≤ f ∧ f ≤ 224 := by rcases hf with rfl | rfl | rfl | rfl <;> decide
  refine isB_append ?_ hv
  unfold hdS
  split
  · exact isB_append (isB_cons (by omega) (isB_cons (u8_range _) isB_nil)) (isB_put16 _)
  · exact isB_cons (by omega) (isB_cons (u8_range _) (isB_cons (by omega) isB_nil))
theorem isB_putA (w : Bool) (a : Attrs) (h : rawsB a.raws) : isB (putA w a) := by
  unfold putA
  split
  · have f1 : flagOk 64 := .inl rfl
    have f2 : flagOk 128 := .inr (.inl rfl)
    have f3 : flagOk 192 := .inr (.inr (.inl rfl))
    have f4 : flagOk 224 := .inr (.inr (.inr rfl))
    have e1 : isB (q1 a) := isB_attr f1 (isB_cons (u8_range _) isB_nil)
    have e2 : isB (q2 w a) := isB_append e1 (isB_attr f1 (isB_path _ _))
    have e3 : isB (q3 w a) := isB_append e2 (isB_attr f1 (isB_put32 _))
    have e4 : isB (q4 w a) := isB_append e3 (isB_opt (isB_attr f2 (isB_put32 _)))
    have e5 : isB (q5 w a) := isB_append e4 (isB_opt (isB_attr f1 (isB_put32 _)))
    have e6 : isB (q6 w a) := isB_append e5 (isB_opt (isB_attr f1 isB_nil))
    have e7 : isB (q7 w a) := isB_append e6 (isB_opt (isB_attr f3 (isB_append (isB_num _ _) (isB_put32 _))))
    have e8 : isB (q8 w a) := isB_append e7 (isB_opt (isB_attr f3 (isB_flatMap fun n _ => isB_put32 n)))
    have e9 : isB (q9 w a a.raws.length) := isB_append e8 (isB_flatMap fun r hr => isB_attr f4 (h r (List.mem_of_mem_take hr)))
    have e10 : isB (q10 w a) := isB_append e9 (isB_opt (isB_attr f3 (isB_path _ _)))
    exact isB_append e10 (isB_opt (isB_attr f3 (isB_append (isB_put32 _) (isB_put32 _))))
  · exact isB_nil

set_option maxRecDepth 20000 in
set_option maxHeartbeats 8000000 in
theorem law_AttrsPuts_ok (a : Attrs) (w : Bool) (hT : AttrsT a) : ACX Go.Proofs.Tryd.prog G0 5 [.agg a.cells, .l (.bool w)] [] [] (.l (.bool true)) [] [] := by
  refine acalls_intro Go.Proofs.Tryd.func5 rfl (by kernel_rfl) Go.Proofs.Tryd.ntmps5 Go.Proofs.Tryd.results5 (by simp) rfl rfl ?_
  try simp only [go_sem, Attrs.cells, segs, u32s, raws, bytes]
  have hB := isB_putA w a (fun r hr => (hT.raws r hr).2.2)
  refine awp_seq_k fun K1 hK1 => ?_
  refine awp_regionL (by rfl) ?_
  try simp only [go_sem, Attrs.cells, segs, u32s, raws, bytes]
  refine hK1 _ _ _ (awp_keep [1, 2] ?_)
  try clear hK1 K1
  try simp only [go_sem, Attrs.cells, segs, u32s, raws, bytes]
  refine awp_seq_k fun K2 hK2 => ?_
  refine awp_seq_k fun K3 hK3 => ?_
  refine awp_regionL (by rfl) ?_
  try simp only [go_sem, Attrs.cells, segs, u32s, raws, bytes]
  refine acall_p (law04_Few_ok a) (by first | exact ⟨rfl, trivial⟩ | exact ⟨rfl, rfl, trivial⟩ | exact ⟨rfl, rfl, rfl, trivial⟩ | (simp only [go_sem, Attrs.cells, segs, u32s, raws, bytes]; done) | (simp only [go_sem, Attrs.cells, segs, u32s, raws, bytes] <;> (repeat' apply And.intro) <;> first | rfl | omega | trivial)) ?_
  try simp only [go_sem, Attrs.cells, segs, u32s, raws, bytes]
  refine hK3 _ _ _ (awp_keep [1, 2, 11] ?_)
  try clear hK3 K3
  try simp only [go_sem, Attrs.cells, segs, u32s, raws, bytes]
  refine awp_cond (by rfl) (fun hc0 => ?_) (fun hc0 => ?_)
  · skip
    try simp only [decide_eq_true_eq, decide_eq_false_iff_not, Bool.not_eq_true', Bool.not_eq_false', Bool.and_eq_true, Bool.or_eq_true, Bool.or_eq_false_iff, Bool.and_eq_false_imp] at hc0
    refine awp_seq_k fun K4 hK4 => ?_
    refine awp_regionL (by rfl) ?_
    try simp only [go_sem, Attrs.cells, segs, u32s, raws, bytes]
    refine acall_p (law04_awake_ok) (by first | exact ⟨rfl, trivial⟩ | exact ⟨rfl, rfl, trivial⟩ | exact ⟨rfl, rfl, rfl, trivial⟩ | (simp only [go_sem, Attrs.cells, segs, u32s, raws, bytes]; done) | (simp only [go_sem, Attrs.cells, segs, u32s, raws, bytes] <;> (repeat' apply And.intro) <;> first | rfl | omega | trivial)) ?_
    try simp only [go_sem, Attrs.cells, segs, u32s, raws, bytes]
    refine hK4 _ _ _ (awp_keep [4] ?_)
    try clear hK4 K4
    try simp only [go_sem, Attrs.cells, segs, u32s, raws, bytes]
    refine awp_ret ?_
    try simp only [go_sem, Attrs.cells, segs, u32s, raws, bytes]
    try clear hK4 K4
    try clear hK3 K3
    try clear hK2 K2
    try clear hK1 K1
    refine ret_p (by simp) (by rfl) ?_ (by rfl)
    (try simp (disch := omega) only [w_i64, w_u8, w_u16, w_u32, w_u64]); simp only [go_sem, Attrs.cells, segs, u32s, raws, bytes] <;> (first | rfl | omega | trivial | (simp; done) | simp_all)
  · skip
    try simp only [decide_eq_true_eq, decide_eq_false_iff_not, Bool.not_eq_true', Bool.not_eq_false', Bool.and_eq_true, Bool.or_eq_true, Bool.or_eq_false_iff, Bool.and_eq_false_imp] at hc0
    refine awp_skip ?_
    try simp only [go_sem, Attrs.cells, segs, u32s, raws, bytes]
    refine hK2 _ _ _ (awp_keep [1, 2] ?_)
    try clear hK2 K2
    try simp only [go_sem, Attrs.cells, segs, u32s, raws, bytes]
    refine awp_seq_k fun K5 hK5 => ?_
    refine awp_regionL (by rfl) ?_
    try simp only [go_sem, Attrs.cells, segs, u32s, raws, bytes]
    refine acall_p (attrs_Put_ok a w hT) (by first | exact ⟨rfl, trivial⟩ | exact ⟨rfl, rfl, trivial⟩ | exact ⟨rfl, rfl, rfl, trivial⟩ | (simp only [go_sem, Attrs.cells, segs, u32s, raws, bytes]; done) | (simp only [go_sem, Attrs.cells, segs, u32s, raws, bytes] <;> (repeat' apply And.intro) <;> first | rfl | omega | trivial)) ?_
    try simp only [go_sem, Attrs.cells, segs, u32s, raws, bytes]
    refine hK5 _ _ _ (awp_keep [1, 2, 5, 6] ?_)
    try clear hK5 K5
    try simp only [go_sem, Attrs.cells, segs, u32s, raws, bytes]
    refine awp_seq_k fun K6 hK6 => ?_
    refine awp_regionL (by rfl) ?_
    try simp only [go_sem, Attrs.cells, segs, u32s, raws, bytes]
    refine acall_p (ref04_Put_ok a w hT) (by first | exact ⟨rfl, trivial⟩ | exact ⟨rfl, rfl, trivial⟩ | exact ⟨rfl, rfl, rfl, trivial⟩ | (simp only [go_sem, Attrs.cells, segs, u32s, raws, bytes]; done) | (simp only [go_sem, Attrs.cells, segs, u32s, raws, bytes] <;> (repeat' apply And.intro) <;> first | rfl | omega | trivial)) ?_
    try simp only [go_sem, Attrs.cells, segs, u32s, raws, bytes]
    refine hK6 _ _ _ (awp_keep [5, 6, 7, 8] ?_)
    try clear hK6 K6
    try simp only [go_sem, Attrs.cells, segs, u32s, raws, bytes]
    refine awp_seq_k fun K7 hK7 => ?_
    refine awp_regionL (by rfl) ?_
    try simp only [go_sem, Attrs.cells, segs, u32s, raws, bytes]
    refine acall_p (ref01_Same_ok (putA w a) (putA w a) hB hB) (by first | exact ⟨rfl, trivial⟩ | exact ⟨rfl, rfl, trivial⟩ | exact ⟨rfl, rfl, rfl, trivial⟩ | (simp only [go_sem, Attrs.cells, segs, u32s, raws, bytes]; done) | (simp only [go_sem, Attrs.cells, segs, u32s, raws, bytes] <;> (repeat' apply And.intro) <;> first | rfl | omega | trivial)) ?_
    try simp only [go_sem, Attrs.cells, segs, u32s, raws, bytes]
    repeat (refine Must.intro (by intro hh; first | exact hh | exact ⟨hh, hh⟩ | exact ⟨hh, fun h2 => ⟨hh, h2⟩⟩ | (simp [hh]; done) | (simp only [Bool.and_eq_true, Bool.or_eq_false_iff, Bool.not_eq_true', Bool.not_eq_false', decide_eq_true_eq, decide_eq_false_iff_not] at hh ⊢; first | exact hh | exact hh.1 | exact hh.2 | exact ⟨hh, hh⟩ | exact ⟨hh.1, hh.1⟩ | exact ⟨hh.2, hh.2⟩ | exact ⟨hh.1, hh.2⟩ | exact hh.1.1 | exact hh.1.2 | (simp [hh]; done))) ?_; try simp only [go_sem])
    refine gcall_p ?_ (by rfl) (by simp only [go_sem, Attrs.cells, segs, u32s, raws, bytes]; rfl) (fun hg => ⟨law04_awake_ok, by simp only [hg, go_sem, Attrs.cells, segs, u32s, raws, bytes]⟩) ?_
    · rfl
    try simp only [go_sem, Attrs.cells, segs, u32s, raws, bytes]
    repeat (refine Must.intro (by intro hh; first | exact hh | exact ⟨hh, hh⟩ | exact ⟨hh, fun h2 => ⟨hh, h2⟩⟩ | (simp [hh]; done) | (simp only [Bool.and_eq_true, Bool.or_eq_false_iff, Bool.not_eq_true', Bool.not_eq_false', decide_eq_true_eq, decide_eq_false_iff_not] at hh ⊢; first | exact hh | exact hh.1 | exact hh.2 | exact ⟨hh, hh⟩ | exact ⟨hh.1, hh.1⟩ | exact ⟨hh.2, hh.2⟩ | exact ⟨hh.1, hh.2⟩ | exact hh.1.1 | exact hh.1.2 | (simp [hh]; done))) ?_; try simp only [go_sem])
    repeat (refine Must.intro (by intro hh; first | exact hh | exact ⟨hh, hh⟩ | exact ⟨hh, fun h2 => ⟨hh, h2⟩⟩ | (simp [hh]; done) | (simp only [Bool.and_eq_true, Bool.or_eq_false_iff, Bool.not_eq_true', Bool.not_eq_false', decide_eq_true_eq, decide_eq_false_iff_not] at hh ⊢; first | exact hh | exact hh.1 | exact hh.2 | exact ⟨hh, hh⟩ | exact ⟨hh.1, hh.1⟩ | exact ⟨hh.2, hh.2⟩ | exact ⟨hh.1, hh.2⟩ | exact hh.1.1 | exact hh.1.2 | (simp [hh]; done))) ?_; try simp only [go_sem])
    refine hK7 _ _ _ (awp_keep [4] ?_)
    try clear hK7 K7
    try simp only [go_sem, Attrs.cells, segs, u32s, raws, bytes]
    refine awp_ret ?_
    try simp only [go_sem, Attrs.cells, segs, u32s, raws, bytes]
    try clear hK7 K7
    try clear hK6 K6
    try clear hK5 K5
    try clear hK4 K4
    try clear hK3 K3
    try clear hK2 K2
    try clear hK1 K1
    refine ret_p (by simp) (by rfl) ?_ (by rfl)
    (try simp (disch := omega) only [w_i64, w_u8, w_u16, w_u32, w_u64]); simp only [go_sem, Attrs.cells, segs, u32s, raws, bytes] <;> (first | rfl | omega | trivial | (simp; done) | simp_all)

end Go.Abs
