/-
  THE LAW OF LAYER 4: what was put wide is read as it was.
-/
import Derived.Test.YtajeoodipplmlaaDoorT30
import Derived.Test.YtajeoodipplmlaaDoorT11
import Derived.Test.YtajeoodipplmlaaDoorA1
set_option linter.all false
namespace Go.Abs
open Go Go.Proofs
theorem putA_len {w : Bool} {a : Attrs} (hR : rightS a = true) : (putA w a).length ≤ 1000000 := by
  obtain ⟨_, _, _, _, _, _, _, _, _, h10, h11⟩ := q_len (w := w) (small_of hR)
  rw [putA, if_pos hR]
  have h2 := attrS_le 192 18 (put32S a.aggrAS ++ put32S a.aggrAddr)
  have o := opt_len (!w && decide (65535 < a.aggrAS)) (attrS 192 18 (put32S a.aggrAS ++ put32S a.aggrAddr))
  simp only [q11, List.length_append] at h2 ⊢
  simp at h2
  omega
theorem short_nar {w : Bool} {l : List Seg} (h : pathRight l = true) : Short (narP w l) := short_of_right (by rw [pathRight_nar]; exact h)
theorem short_nil : Short [] := ⟨by decide, by decide, by decide⟩
theorem rawsB_of {a : Attrs} (hT : AttrsT a) : rawsB a.raws := fun r hr => (hT.raws r hr).2.2
/-- What reading comes to. -/
theorem read_back (w : Bool) (a : Attrs) (hR : rightS a = true) (hT : AttrsT a) (hN : nextS a.next = true) : ∃ g2, Fin w a g2 ∧
    ACX Go.Proofs.Tryd.prog G0 23 [.l (bytes (putA w a)), .l (.bool w)] [] [] (.tup [.agg (endG g2).a.cells, .l (ints (endG g2).kinds), .agg noF.cells]) [] [] := by
  obtain ⟨g2, hf, hr⟩ := put_reads w a hR hT hN
  have F := facts_of hR
  refine ⟨g2, hf, attrs_Read_ok (putA w a) w g2 (putA_len hR) ?_ ?_ ?_ ?_⟩
  · rw [putA, if_pos hR]; exact hr.run
  · rw [hf.attrs]; exact short_nar F.path
  · rw [hf.more]; split
    · exact short_of_right F.path
    · exact short_nil
  · rw [hf.newAS]; split
    · simp [vWide]
    · simp
theorem fin_wide {a : Attrs} {g2 : Rdg} (hf : Fin true a g2) : (endG g2).a = a := by
  rw [endG_w (.inl hf.wide), hf.attrs, narP_true, nar_true]

section
attribute [local go_sem] Attrs.cells segs u32s raws bytes ints Flt.cells
set_option maxRecDepth 20000 in
set_option maxHeartbeats 8000000 in
theorem law_AttrsBack_ok (a : Attrs) (hT : AttrsT a) : ACX Go.Proofs.Tryd.prog G0 6 [.agg a.cells] [] [] (.l (.bool true)) [] [] := by
 refine acalls_intro Go.Proofs.Tryd.func6 rfl (by kernel_rfl) Go.Proofs.Tryd.ntmps6 Go.Proofs.Tryd.results6 (by simp) rfl rfl ?_
 try simp only [go_sem]
 refine awp_seq_k fun K1 hK1 => ?_
 refine awp_regionL (by rfl) ?_
 try simp only [go_sem]
 refine hK1 _ _ _ (awp_keep [1] ?_)
 try clear hK1 K1
 try simp only [go_sem]
 refine awp_seq_k fun K2 hK2 => ?_
 refine awp_seq_k fun K3 hK3 => ?_
 refine awp_regionL (by rfl) ?_
 try simp only [go_sem]
 refine acall_pa (law04_Few_ok a) ?_
 try simp only [go_sem]
 repeat (refine Must.au ?_; try simp only [go_sem])
 refine gcall_p ?_ (by rfl) (by simp only [go_sem]; rfl) (fun hg => ⟨ref04_Right_ok a, by simp only [hg, go_sem]⟩) ?_
 ·
  rfl
 try simp only [go_sem]
 repeat (refine Must.au ?_; try simp only [go_sem])
 refine gcall_p ?_ (by rfl) (by simp only [go_sem]; rfl) (fun hg => ⟨ref04_Next_ok a.next hT.next.1 hT.next.2, by simp only [hg, go_sem]⟩) ?_
 ·
  rfl
 try simp only [go_sem]
 repeat (refine Must.au ?_; try simp only [go_sem])
 repeat (refine Must.au ?_; try simp only [go_sem])
 refine hK3 _ _ _ (awp_keep [1, 21] ?_)
 try clear hK3 K3
 try simp only [go_sem]
 refine awp_cond (by rfl) (fun hc0 => ?_) (fun hc0 => ?_)
 ·
  skip
  try simp only [decide_eq_true_eq, decide_eq_false_iff_not, Bool.not_eq_true', Bool.not_eq_false', Bool.and_eq_true, Bool.or_eq_true, Bool.or_eq_false_iff, Bool.and_eq_false_imp] at hc0
  skip
  refine awp_seq_k fun K4 hK4 => ?_
  refine awp_regionL (by rfl) ?_
  try simp only [go_sem]
  refine acall_pa (law04_awake_ok) ?_
  try simp only [go_sem]
  refine hK4 _ _ _ (awp_keep [2] ?_)
  try clear hK4 K4
  try simp only [go_sem]
  refine awp_ret ?_
  try simp only [go_sem]
  try clear hK4 K4
  try clear hK3 K3
  try clear hK2 K2
  try clear hK1 K1
  refine ret_p (by simp) (by rfl) ?_ (by rfl)
  (try simp (disch := omega) only [w_i64, w_u8, w_u16, w_u32, w_u64]); simp only [go_sem] <;> (first | exact ⟨by rw [putE, if_pos hR], rfl⟩ | rfl | trivial)
 ·
  skip
  try simp only [decide_eq_true_eq, decide_eq_false_iff_not, Bool.not_eq_true', Bool.not_eq_false', Bool.and_eq_true, Bool.or_eq_true, Bool.or_eq_false_iff, Bool.and_eq_false_imp] at hc0
  obtain ⟨⟨hF, hR⟩, hN⟩ := hc0
  obtain ⟨g2, hfin, hread⟩ := read_back true a hR hT hN
  rw [fin_wide hfin] at hread
  refine awp_skip ?_
  try simp only [go_sem]
  refine hK2 _ _ _ (awp_keep [1] ?_)
  try clear hK2 K2
  try simp only [go_sem]
  refine awp_seq_k fun K5 hK5 => ?_
  refine awp_regionL (by rfl) ?_
  try simp only [go_sem]
  refine acall_pa (attrs_Put_ok a true hT) ?_
  try simp only [go_sem]
  refine hK5 _ _ _ (awp_keep [1, 3, 4] ?_)
  try clear hK5 K5
  try simp only [go_sem]
  refine awp_seq_k fun K6 hK6 => ?_
  refine awp_regionL (by rfl) ?_
  try simp only [go_sem]
  refine acall_pa (hread) ?_
  try simp only [go_sem]
  refine hK6 _ _ _ (awp_keep [1, 4, 5, 7] ?_)
  try clear hK6 K6
  try simp only [go_sem]
  refine awp_seq_k fun K7 hK7 => ?_
  refine awp_regionL (by rfl) ?_
  try simp only [go_sem]
  refine gcall_p ?_ (by rfl) (by simp only [go_sem]; rfl) (fun hg => ⟨ref04_Same_ok a a (rawsB_of hT) (rawsB_of hT), by simp only [hg, go_sem]⟩) ?_
  ·
   rfl
  try simp only [go_sem]
  repeat (refine Must.au ?_; try simp only [go_sem])
  refine gcall_p ?_ (by rfl) (by simp only [go_sem]; rfl) (fun hg => ⟨law04_awake_ok, by simp only [hg, go_sem]⟩) ?_
  ·
   rfl
  try simp only [go_sem]
  repeat (refine Must.au ?_; try simp only [go_sem])
  repeat (refine Must.au ?_; try simp only [go_sem])
  refine hK7 _ _ _ (awp_keep [2] ?_)
  try clear hK7 K7
  try simp only [go_sem]
  refine awp_ret ?_
  try simp only [go_sem]
  try clear hK7 K7
  try clear hK6 K6
  try clear hK5 K5
  try clear hK4 K4
  try clear hK3 K3
  try clear hK2 K2
  try clear hK1 K1
  refine ret_p (by simp) (by rfl) ?_ (by rfl)
  (try simp (disch := omega) only [w_i64, w_u8, w_u16, w_u32, w_u64]); simp only [go_sem] <;> (first | exact ⟨by rw [putE, if_pos hR], rfl⟩ | rfl | trivial)
end

end Go.Abs
