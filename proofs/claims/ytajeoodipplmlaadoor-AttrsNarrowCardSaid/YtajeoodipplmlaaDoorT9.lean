/-
  ATTRIBUTES, 5: whether attributes may be.
-/
import Derived.Test.YtajeoodipplmlaaDoorT8
set_option linter.all false
namespace Go.Abs
open Go Go.Proofs
def rightS (a : Attrs) : Bool := !(decide (a.origin < 0) || decide (2 < a.origin) || !pathRight a.path || !numberS a.med || !numberS a.pref) && (!(!a.hasAggr && (!decide (a.aggrAS = 0) || !decide (a.aggrAddr = 0))) && (decide (a.comms.length ≤ 32) && rawsS a.raws))

section
attribute [local go_sem] Attrs.cells segs u32s raws
set_option maxRecDepth 20000 in
set_option maxHeartbeats 8000000 in
theorem attrs_Right_ok (a : Attrs) : ACX Go.Proofs.Tryd.prog G0 10 [.agg a.cells] [] [] (.l (.bool (rightS a))) [] [] := by
 refine acalls_intro Go.Proofs.Tryd.func10 rfl (by kernel_rfl) Go.Proofs.Tryd.ntmps10 Go.Proofs.Tryd.results10 (by simp) rfl rfl ?_
 try simp only [go_sem]
 refine awp_seq_k fun K1 hK1 => ?_
 refine awp_regionL (by rfl) ?_
 try simp only [go_sem]
 refine hK1 _ _ _ (awp_keep [1] ?_)
 try clear hK1 K1
 try simp only [go_sem]
 refine awp_seq_k fun K2 hK2 => ?_
 refine awp_seq_k fun K3 hK3 => ?_
 refine awp_regionL (by rfl) ?_
 try simp only [go_sem]
 refine gcall_p ?_ (by rfl) (by simp only [go_sem]; rfl) (fun hg => ⟨aspath_Right_ok a.path, by simp only [hg, go_sem]⟩) ?_
 ·
  rfl
 try simp only [go_sem]
 repeat (refine Must.au ?_; try simp only [go_sem])
 refine gcall_p ?_ (by rfl) (by simp only [go_sem]; rfl) (fun hg => ⟨attrs_number_ok a.med, by simp only [hg, go_sem]⟩) ?_
 ·
  rfl
 try simp only [go_sem]
 repeat (refine Must.au ?_; try simp only [go_sem])
 refine gcall_p ?_ (by rfl) (by simp only [go_sem]; rfl) (fun hg => ⟨attrs_number_ok a.pref, by simp only [hg, go_sem]⟩) ?_
 ·
  rfl
 try simp only [go_sem]
 repeat (refine Must.au ?_; try simp only [go_sem])
 repeat (refine Must.au ?_; try simp only [go_sem])
 refine hK3 _ _ _ (awp_keep [1, 28] ?_)
 try clear hK3 K3
 try simp only [go_sem]
 refine awp_cond (by rfl) (fun hc0 => ?_) (fun hc0 => ?_)
 ·
  skip
  try simp only [decide_eq_true_eq, decide_eq_false_iff_not, Bool.not_eq_true', Bool.not_eq_false', Bool.and_eq_true, Bool.or_eq_true, Bool.or_eq_false_iff, Bool.and_eq_false_imp] at hc0
  refine awp_seq_k fun K4 hK4 => ?_
  refine awp_regionL (by rfl) ?_
  try simp only [go_sem]
  refine hK4 _ _ _ (awp_keep [2] ?_)
  try clear hK4 K4
  try simp only [go_sem]
  refine awp_ret ?_
  try simp only [go_sem]
  try clear hK4 K4
  try clear hK3 K3
  try clear hK2 K2
  try clear hK1 K1
  refine ret_p (by simp) (by rfl) ?_ (by rfl)
  (try simp (disch := omega) only [w_i64, w_u8, w_u16, w_u32, w_u64]); simp only [go_sem] <;> ((rcases hc0 with (((h | h) | h) | h) | h <;> simp [rightS, h]))
 ·
  skip
  try simp only [decide_eq_true_eq, decide_eq_false_iff_not, Bool.not_eq_true', Bool.not_eq_false', Bool.and_eq_true, Bool.or_eq_true, Bool.or_eq_false_iff, Bool.and_eq_false_imp] at hc0
  refine awp_skip ?_
  try simp only [go_sem]
  refine hK2 _ _ _ (awp_keep [1] ?_)
  try clear hK2 K2
  try simp only [go_sem]
  refine awp_seq_k fun K5 hK5 => ?_
  refine awp_seq_k fun K6 hK6 => ?_
  refine awp_regionL (by rfl) ?_
  try simp only [go_sem]
  repeat (refine Must.au ?_; try simp only [go_sem])
  refine hK6 _ _ _ (awp_keep [1, 41] ?_)
  try clear hK6 K6
  try simp only [go_sem]
  refine awp_cond (by rfl) (fun hc1 => ?_) (fun hc1 => ?_)
  ·
   skip
   try simp only [decide_eq_true_eq, decide_eq_false_iff_not, Bool.not_eq_true', Bool.not_eq_false', Bool.and_eq_true, Bool.or_eq_true, Bool.or_eq_false_iff, Bool.and_eq_false_imp] at hc1
   refine awp_seq_k fun K7 hK7 => ?_
   refine awp_regionL (by rfl) ?_
   try simp only [go_sem]
   refine hK7 _ _ _ (awp_keep [2] ?_)
   try clear hK7 K7
   try simp only [go_sem]
   refine awp_ret ?_
   try simp only [go_sem]
   try clear hK7 K7
   try clear hK6 K6
   try clear hK5 K5
   try clear hK4 K4
   try clear hK3 K3
   try clear hK2 K2
   try clear hK1 K1
   refine ret_p (by simp) (by rfl) ?_ (by rfl)
   (try simp (disch := omega) only [w_i64, w_u8, w_u16, w_u32, w_u64]); simp only [go_sem] <;> (simp [rightS]; intros; simp_all)
  ·
   skip
   try simp only [decide_eq_true_eq, decide_eq_false_iff_not, Bool.not_eq_true', Bool.not_eq_false', Bool.and_eq_true, Bool.or_eq_true, Bool.or_eq_false_iff, Bool.and_eq_false_imp] at hc1
   refine awp_skip ?_
   try simp only [go_sem]
   refine hK5 _ _ _ (awp_keep [1] ?_)
   try clear hK5 K5
   try simp only [go_sem]
   refine awp_seq_k fun K8 hK8 => ?_
   refine awp_regionL (by rfl) ?_
   try simp only [go_sem]
   refine gcall_p ?_ (by rfl) (by simp only [go_sem]; rfl) (fun hg => ⟨attrs_raws_ok a.raws, by simp only [hg, go_sem]⟩) ?_
   ·
    rfl
   try simp only [go_sem]
   repeat (refine Must.au ?_; try simp only [go_sem])
   repeat (refine Must.au ?_; try simp only [go_sem])
   refine hK8 _ _ _ (awp_keep [2] ?_)
   try clear hK8 K8
   try simp only [go_sem]
   refine awp_ret ?_
   try simp only [go_sem]
   try clear hK8 K8
   try clear hK7 K7
   try clear hK6 K6
   try clear hK5 K5
   try clear hK4 K4
   try clear hK3 K3
   try clear hK2 K2
   try clear hK1 K1
   obtain ⟨⟨⟨⟨h1, h2⟩, h3⟩, h4⟩, h5⟩ := hc0
   have h6 : ¬ a.origin < 0 := by omega
   have h7 : ¬ 2 < a.origin := by omega
   have h9 : decide ((a.comms.length : Int) ≤ 32) = decide (a.comms.length ≤ 32) := decide_eq_decide.2 (by omega)
   refine ret_p (by simp) (by rfl) ?_ (by rfl)
   (try simp (disch := omega) only [w_i64, w_u8, w_u16, w_u32, w_u64]); simp only [go_sem] <;> ((cases h : a.hasAggr <;> simp_all [rightS]))
end

end Go.Abs
