/-
  ATTRIBUTES AS BYTES, 1: what the program puts behind what was put.
-/
import Derived.Test.YtajeoodipplmlaaDoorT15
import Derived.Test.YtajeoodipplmlaaDoorT9
import Derived.Test.YtajeoodipplmlaaDoorO4
set_option linter.all false
namespace Go.Abs
open Go Go.Proofs
def opt (c : Bool) (l : List Int) : List Int := cond c l []
theorem opt_true (l : List Int) : opt true l = l := rfl
theorem opt_false (l : List Int) : opt false l = [] := rfl
theorem opt_len (c : Bool) (l : List Int) : (opt c l).length ≤ l.length := by cases c <;> simp [opt]

section
attribute [local go_sem] bytes
set_option maxRecDepth 20000 in
set_option maxHeartbeats 8000000 in
theorem attrs_Put1_new (k : Nat) (f : Int) (hk : k < 19) (hl : looksC[k * 3]? = some (.int .i64 f)) (hf : flagOk f) (v : List Int) (hv : v.length ≤ 10000000) : ACX Go.Proofs.Tryd.prog G0 38 [.l (.bool true), .l (.int .i64 k), .l (bytes v), .l (.ptr 0 0)] [⟨36, [.slice .cap0 1 []]⟩] [] (.tup []) [⟨36, [.slice (.row 0) 1 (bl (attrS f k v))]⟩] [(5, (attrS f k v).length)] := by
 refine acalls_intro Go.Proofs.Tryd.func38 rfl (by kernel_rfl) Go.Proofs.Tryd.ntmps38 Go.Proofs.Tryd.results38 (by simp) rfl rfl ?_
 try simp only [go_sem, hkk, hl]
 have hkk : (k : Int).toNat = k := by omega
 have hal := attrS_le f k v
 refine awp_seq_k fun K1 hK1 => ?_
 refine awp_regionL (by rfl) ?_
 try simp only [go_sem, hkk, hl]
 refine hK1 _ _ _ (awp_keep [1, 2, 3, 7] ?_)
 try clear hK1 K1
 try simp only [go_sem, hkk, hl]
 refine awp_cond (by rfl) (fun hc0 => ?_) (fun hc0 => ?_)
 ·
  skip
  try simp only [decide_eq_true_eq, decide_eq_false_iff_not, Bool.not_eq_true', Bool.not_eq_false', Bool.and_eq_true, Bool.or_eq_true, Bool.or_eq_false_iff, Bool.and_eq_false_imp] at hc0
  refine awp_drawP (by kernel_rfl) (by rfl) (by kernel_rfl) (fun _ => true) (.early 0 (.early 1 (.early 2 (.early 3 (.early 4 (.early 5 (.early 6 (.last 7 (.late 8 (.late 9 .done)))))))))) (by kernel_rfl) (fun _ _ _ _ => by simp only [go_sem, not_false_eq_true]) ?_
  try simp only [go_sem, hkk, hl]
  refine Must.intro (by omega) ?_
  try simp only [go_sem, hkk, hl]
  refine acall_x (attrs_whole_ok f k v hf (by omega)) [] [] (by decide) (by decide) (by simp) (by first | (simp only [go_sem, hkk, hl]; done) | (simp only [go_sem, hkk, hl] <;> (repeat' apply And.intro) <;> first | rfl | omega | trivial)) (by first | (simp only [go_sem, hkk, hl]; done) | (simp only [go_sem, hkk, hl] <;> (repeat' apply And.intro) <;> first | rfl | omega | trivial)) (by first | (simp only [go_sem, hkk, hl]; done) | (simp only [go_sem, hkk, hl] <;> (repeat' apply And.intro) <;> first | rfl | omega | trivial)) ?_
  try simp only [go_sem, hkk, hl]
  refine app_new rfl rfl (.inl rfl) (by decide) tby5 (by (try simp only [go_sem, List.length_append, List.length_map, bl_length, hkk, hl]); first | omega | (simp; done) | (simp; omega)) (by (try simp only [go_sem, List.length_append, List.length_map, bl_length, hkk, hl]); first | omega | (simp; done) | (simp; omega)) ?_
  try simp only [go_sem, hkk, hl]
  try clear hK1 K1
  refine ret_x [1] (by simp) (by rfl) ?_ (by rfl) ?_ (by rfl) (by simp) (by simp) (by rfl) ?_ <;> ((try simp (disch := omega) only [w_i64, w_u8, w_u16, w_u32, w_u64]); simp only [go_sem, hkk, hl]) <;> (first | rfl | omega | trivial | (simp; done) | simp_all)
 ·
  skip
  exact absurd hc0 (by simp)
end

section
attribute [local go_sem] bytes bl_length
set_option maxRecDepth 20000 in
set_option maxHeartbeats 8000000 in
theorem attrs_Put1_row (k : Nat) (f : Int) (hk : k < 19) (hl : looksC[k * 3]? = some (.int .i64 f)) (hf : flagOk f) (b : Bool) (o v : List Int) (hv : v.length ≤ 10000000) (ho : o.length ≤ 10000000) : ACX Go.Proofs.Tryd.prog G0 38 [.l (.bool b), .l (.int .i64 k), .l (bytes v), .l (.ptr 0 0)] [⟨36, [.slice (.row 0) 1 (bl o)]⟩] [(5, o.length)] (.tup []) [⟨36, [.slice (.row 0) 1 (bl (o ++ opt b (attrS f k v)))]⟩] [(5, (o ++ opt b (attrS f k v)).length)] := by
 refine acalls_intro Go.Proofs.Tryd.func38 rfl (by kernel_rfl) Go.Proofs.Tryd.ntmps38 Go.Proofs.Tryd.results38 (by simp) rfl rfl ?_
 try simp only [go_sem, hkk, hl]
 have hkk : (k : Int).toNat = k := by omega
 have hal := attrS_le f k v
 refine awp_seq_k fun K1 hK1 => ?_
 refine awp_regionL (by rfl) ?_
 try simp only [go_sem, hkk, hl]
 refine hK1 _ _ _ (awp_keep [1, 2, 3, 7] ?_)
 try clear hK1 K1
 try simp only [go_sem, hkk, hl]
 refine awp_cond (by rfl) (fun hc0 => ?_) (fun hc0 => ?_)
 ·
  skip
  try simp only [decide_eq_true_eq, decide_eq_false_iff_not, Bool.not_eq_true', Bool.not_eq_false', Bool.and_eq_true, Bool.or_eq_true, Bool.or_eq_false_iff, Bool.and_eq_false_imp] at hc0
  refine awp_drawP (by kernel_rfl) (by rfl) (by kernel_rfl) (fun _ => true) (.early 0 (.early 1 (.early 2 (.early 3 (.early 4 (.early 5 (.early 6 (.last 7 (.late 8 (.late 9 .done)))))))))) (by kernel_rfl) (fun _ _ _ _ => by simp only [go_sem, not_false_eq_true]) ?_
  try simp only [go_sem, hkk, hl]
  refine Must.intro (by omega) ?_
  try simp only [go_sem, hkk, hl]
  refine acall_x (attrs_whole_ok f k v hf (by omega)) [] [] (by decide) (by decide) (by simp) (by first | (simp only [go_sem, hkk, hl]; done) | (simp only [go_sem, hkk, hl] <;> (repeat' apply And.intro) <;> first | rfl | omega | trivial)) (by first | (simp only [go_sem, hkk, hl]; done) | (simp only [go_sem, hkk, hl] <;> (repeat' apply And.intro) <;> first | rfl | omega | trivial)) (by first | (simp only [go_sem, hkk, hl]; done) | (simp only [go_sem, hkk, hl] <;> (repeat' apply And.intro) <;> first | rfl | omega | trivial)) ?_
  try simp only [go_sem, hkk, hl]
  refine app_row rfl rfl rfl (by first | rfl | (simp only [go_sem, List.length_append, List.length_map, bl_length, hkk, hl]; done) | (simp; done) | (simp; omega)) rfl (.inl rfl) (by decide) tby5 (by (try simp only [go_sem, List.length_append, List.length_map, bl_length, hkk, hl]); first | omega | (simp; done) | (simp; omega)) (by (try simp only [go_sem, List.length_append, List.length_map, bl_length, hkk, hl]); first | omega | (simp; done) | (simp; omega)) ?_
  try simp only [go_sem, hkk, hl]
  try clear hK1 K1
  refine ret_x [0] (by simp) (by rfl) ?_ (by rfl) ?_ (by rfl) (by simp) (by simp) (by rfl) ?_ <;> ((try simp (disch := omega) only [w_i64, w_u8, w_u16, w_u32, w_u64]); simp only [go_sem, hkk, hl]) <;> (first | rfl | (simp [hc0, opt, bl_append]; done))
 ·
  skip
  try simp only [decide_eq_true_eq, decide_eq_false_iff_not, Bool.not_eq_true', Bool.not_eq_false', Bool.and_eq_true, Bool.or_eq_true, Bool.or_eq_false_iff, Bool.and_eq_false_imp] at hc0
  refine awp_skip ?_
  try simp only [go_sem, hkk, hl]
  try clear hK1 K1
  refine ret_x [0] (by simp) (by rfl) ?_ (by rfl) ?_ (by rfl) (by simp) (by simp) (by rfl) ?_ <;> ((try simp (disch := omega) only [w_i64, w_u8, w_u16, w_u32, w_u64]); simp only [go_sem, hkk, hl]) <;> (first | rfl | (simp [hc0, opt, bl_append]; done))
end

end Go.Abs
