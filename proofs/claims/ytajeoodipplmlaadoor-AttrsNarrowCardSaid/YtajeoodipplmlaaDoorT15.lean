/-
  AN ATTRIBUTE's BYTES; whether a path has a number that is wide.
-/
import Derived.Test.YtajeoodipplmlaaDoorT14
set_option linter.all false
namespace Go.Abs
open Go Go.Proofs
def hdS (f k n : Int) : List Int := if 255 < n then [f + 16, IntKind.u8.wrap k] ++ put16S n else [f, IntKind.u8.wrap k, n]
def attrS (f k : Int) (v : List Int) : List Int := hdS f k v.length ++ v
theorem hdS_len (f k n : Int) : (hdS f k n).length ≤ 4 := by unfold hdS; split <;> simp
theorem hdS_big {f k n : Int} (h : 255 < n) : hdS f k n = [f + 16, IntKind.u8.wrap k] ++ put16S n := if_pos h
theorem hdS_small {f k n : Int} (h : ¬ 255 < n) : hdS f k n = [f, IntKind.u8.wrap k, n] := if_neg h
theorem attrS_len (f k : Int) (v : List Int) : (attrS f k v).length = (hdS f k v.length).length + v.length := by simp [attrS]
theorem attrS_le (f k : Int) (v : List Int) : (attrS f k v).length ≤ 4 + v.length := by have := hdS_len f k v.length; rw [attrS_len]; omega
def flagOk (f : Int) : Prop := f = 64 ∨ f = 128 ∨ f = 192 ∨ f = 224
theorem or16 {f : Int} (h : flagOk f) : IntKind.u8.wrap (bits .or .i64 f 16) = f + 16 := by
  rcases h with rfl | rfl | rfl | rfl <;> decide

section
attribute [local go_sem] bytes bl_length
set_option maxRecDepth 20000 in
set_option maxHeartbeats 8000000 in
theorem attrs_whole_ok (f k : Int) (v : List Int) (hf : flagOk f) (hv : v.length ≤ 100000000) : ACX Go.Proofs.Tryd.prog G0 39 [.l (.int .i64 f), .l (.int .i64 k), .l (bytes v)] [] [] (.l (.slice (.row 0) 1 (bl (attrS f k v)))) [] [(5, (attrS f k v).length)] := by
 refine acalls_intro Go.Proofs.Tryd.func39 rfl (by kernel_rfl) Go.Proofs.Tryd.ntmps39 Go.Proofs.Tryd.results39 (by simp) rfl rfl ?_
 try simp only [go_sem]
 have hor := or16 hf
 have hhd := hdS_len f k v.length
 have hfb : 0 ≤ f ∧ f ≤ 224 := by rcases hf with rfl | rfl | rfl | rfl <;> decide
 have hal := attrS_len f k v
 refine awp_seq_k fun K1 hK1 => ?_
 refine awp_regionL (by rfl) ?_
 try simp only [go_sem]
 refine hK1 _ _ _ (awp_keep [0, 1, 2] ?_)
 try clear hK1 K1
 try simp only [go_sem]
 refine awp_seq_k fun K2 hK2 => ?_
 refine awp_regionL (by rfl) ?_
 try simp only [go_sem]
 refine hK2 _ _ _ (awp_keep [0, 1, 2] ?_)
 try clear hK2 K2
 try simp only [go_sem]
 refine awp_joinE (α := Unit) (fun (_u : Unit) => True) (fun (_u : Unit) => [(7, .l (.slice (.row 0) 1 (bl (hdS f k v.length))))]) (fun (_u : Unit) => []) (fun (_u : Unit) => [(5, (hdS f k v.length).length)]) [2] (fun K3 hK3 => ?_) ?_
 ·
  skip
  refine awp_seq_k fun K4 hK4 => ?_
  refine awp_regionL (by rfl) ?_
  try simp only [go_sem]
  refine hK4 _ _ _ (awp_keep [0, 1, 2, 10] ?_)
  try clear hK4 K4
  try simp only [go_sem]
  refine awp_cond (by rfl) (fun hc0 => ?_) (fun hc0 => ?_)
  ·
   skip
   try simp only [decide_eq_true_eq, decide_eq_false_iff_not, Bool.not_eq_true', Bool.not_eq_false', Bool.and_eq_true, Bool.or_eq_true, Bool.or_eq_false_iff, Bool.and_eq_false_imp] at hc0
   refine awp_regionL (by rfl) ?_
   try simp only [go_sem]
   refine acall_xa (oct16_ok [IntKind.u8.wrap (bits .or .i64 f 16), IntKind.u8.wrap k] v.length (by simp)) [] [] ?_
   try simp only [go_sem]
   try simp (disch := omega) only [w_i64, w_u8, w_u16, w_u32, w_u64]
   have hh := hdS_big (f := f) (k := k) hc0
   refine hK3 _ _ _ ⟨(), [1], ?_, ?_⟩
   ·
    (try simp (disch := omega) only [w_i64, w_u8, w_u16, w_u32, w_u64]); simp only [Lss, go_sem, hh, hor]
    first | exact ⟨rfl, rfl⟩ | rfl
    all_goals first | rfl | omega | trivial
   ·
    trivial
  ·
   skip
   try simp only [decide_eq_true_eq, decide_eq_false_iff_not, Bool.not_eq_true', Bool.not_eq_false', Bool.and_eq_true, Bool.or_eq_true, Bool.or_eq_false_iff, Bool.and_eq_false_imp] at hc0
   refine awp_regionL (by rfl) ?_
   try simp only [go_sem]
   try simp (disch := omega) only [w_i64, w_u8, w_u16, w_u32, w_u64]
   have hh := hdS_small (f := f) (k := k) hc0
   refine hK3 _ _ _ ⟨(), [0], ?_, ?_⟩
   ·
    (try simp (disch := omega) only [w_i64, w_u8, w_u16, w_u32, w_u64]); simp only [Lss, go_sem, hh]
    first | exact ⟨rfl, rfl⟩ | rfl
    all_goals first | rfl | omega | trivial
   ·
    trivial
 ·
  rintro _u hj
  try simp only [go_sem]
  refine awp_seq_k fun K5 hK5 => ?_
  refine awp_regionL (by rfl) ?_
  try simp only [go_sem]
  refine app_row rfl rfl rfl (by first | rfl | (simp only [go_sem, List.length_append, List.length_map, bl_length]; done) | (simp; done) | (simp; omega)) rfl (.inl rfl) (by decide) tby5 (by (try simp only [go_sem, List.length_append, List.length_map, bl_length]); first | omega | (simp; done) | (simp; omega)) (by (try simp only [go_sem, List.length_append, List.length_map, bl_length]); first | omega | (simp; done) | (simp; omega)) ?_
  try simp only [go_sem]
  refine hK5 _ _ _ (awp_keep [6] ?_)
  try clear hK5 K5
  try simp only [go_sem]
  refine awp_ret ?_
  try simp only [go_sem]
  try clear hK5 K5
  try clear hK4 K4
  try clear hK3 K3
  try clear hK2 K2
  try clear hK1 K1
  refine ret_x [0] (by simp) (by rfl) ?_ (by rfl) ?_ (by rfl) (by simp) (by simp) (by rfl) ?_ <;> ((try simp (disch := omega) only [w_i64, w_u8, w_u16, w_u32, w_u64]); simp only [go_sem]) <;> (first | (rw [← bl_append]; rfl) | (rw [← bl_append, List.append_assoc]; rfl) | (simp [attrS]; done) | rfl | omega)
end

section
attribute [local go_sem] bytes bl_length List.length_append
set_option maxRecDepth 20000 in
set_option maxHeartbeats 8000000 in
theorem ref04_attr_ok (b : List Int) (f k : Int) (v : List Int) (hf : flagOk f) (hb : b.length ≤ 10000000) (hv : v.length ≤ 10000000) : ACX Go.Proofs.Tryd.prog G0 45 [.l (bytes b), .l (.int .i64 f), .l (.int .i64 k), .l (bytes v)] [] [] (.l (.slice (.row 0) 1 (bl (b ++ attrS f k v)))) [] [(5, (b ++ attrS f k v).length)] := by
 refine acalls_intro Go.Proofs.Tryd.func45 rfl (by kernel_rfl) Go.Proofs.Tryd.ntmps45 Go.Proofs.Tryd.results45 (by simp) rfl rfl ?_
 try simp only [go_sem]
 have hal := attrS_len f k v
 have hhd := hdS_len f k v.length
 have hfb : 0 ≤ f ∧ f ≤ 224 := by rcases hf with rfl | rfl | rfl | rfl <;> decide
 refine awp_seq_k fun K1 hK1 => ?_
 refine awp_regionL (by rfl) ?_
 try simp only [go_sem]
 refine hK1 _ _ _ (awp_keep [0, 1, 2, 3] ?_)
 try clear hK1 K1
 try simp only [go_sem]
 refine awp_seq_k fun K2 hK2 => ?_
 refine awp_regionL (by rfl) ?_
 try simp only [go_sem]
 refine hK2 _ _ _ (awp_keep [0, 1, 2, 3, 9] ?_)
 try clear hK2 K2
 try simp only [go_sem]
 refine awp_seq_k fun K3 hK3 => ?_
 refine awp_regionL (by rfl) ?_
 try simp only [go_sem]
 refine app_new rfl rfl (.inl rfl) (by decide) tby5 (by (try simp only [go_sem, List.length_append, List.length_map, bl_length]); first | omega | (simp; done) | (simp; omega)) (by (try simp only [go_sem, List.length_append, List.length_map, bl_length]); first | omega | (simp; done) | (simp; omega)) ?_
 try simp only [go_sem]
 refine hK3 _ _ _ (awp_keep [1, 2, 3, 9] ?_)
 try clear hK3 K3
 try simp only [go_sem]
 refine awp_joinE (α := Unit) (fun (_u : Unit) => True) (fun (_u : Unit) => [(9, .l (.slice (.row 0) 1 (bl (b ++ hdS f k v.length))))]) (fun (_u : Unit) => []) (fun (_u : Unit) => [(5, (b ++ hdS f k v.length).length)]) [3] (fun K4 hK4 => ?_) ?_
 ·
  skip
  refine awp_seq_k fun K5 hK5 => ?_
  refine awp_regionL (by rfl) ?_
  try simp only [go_sem]
  refine hK5 _ _ _ (awp_keep [1, 2, 3, 9, 15] ?_)
  try clear hK5 K5
  try simp only [go_sem]
  refine awp_cond (by rfl) (fun hc0 => ?_) (fun hc0 => ?_)
  ·
   skip
   try simp only [decide_eq_true_eq, decide_eq_false_iff_not, Bool.not_eq_true', Bool.not_eq_false', Bool.and_eq_true, Bool.or_eq_true, Bool.or_eq_false_iff, Bool.and_eq_false_imp] at hc0
   refine awp_seq_k fun K6 hK6 => ?_
   refine awp_regionL (by rfl) ?_
   try simp only [go_sem]
   try simp (disch := omega) only [w_i64, w_u8, w_u16, w_u32, w_u64]
   refine app_row rfl rfl rfl (by first | rfl | (simp only [go_sem, List.length_append, List.length_map, bl_length]; done) | (simp; done) | (simp; omega)) rfl (.inl rfl) (by decide) tby5 (by (try simp only [go_sem, List.length_append, List.length_map, bl_length]); first | omega | (simp; done) | (simp; omega)) (by (try simp only [go_sem, List.length_append, List.length_map, bl_length]); first | omega | (simp; done) | (simp; omega)) ?_
   try simp only [go_sem]
   try simp (disch := omega) only [w_i64, w_u8, w_u16, w_u32, w_u64]
   simp only [bl_snoc]
   refine hK6 _ _ _ (awp_keep [2, 3, 9] ?_)
   try clear hK6 K6
   try simp only [go_sem]
   refine awp_seq_k fun K7 hK7 => ?_
   refine awp_regionL (by rfl) ?_
   try simp only [go_sem]
   try simp (disch := omega) only [w_i64, w_u8, w_u16, w_u32, w_u64]
   refine app_row rfl rfl rfl (by first | rfl | (simp only [go_sem, List.length_append, List.length_map, bl_length]; done) | (simp; done) | (simp; omega)) rfl (.inl rfl) (by decide) tby5 (by (try simp only [go_sem, List.length_append, List.length_map, bl_length]); first | omega | (simp; done) | (simp; omega)) (by (try simp only [go_sem, List.length_append, List.length_map, bl_length]); first | omega | (simp; done) | (simp; omega)) ?_
   try simp only [go_sem]
   try simp (disch := omega) only [w_i64, w_u8, w_u16, w_u32, w_u64]
   simp only [bl_snoc]
   refine hK7 _ _ _ (awp_keep [3, 9] ?_)
   try clear hK7 K7
   try simp only [go_sem]
   refine awp_regionL (by rfl) ?_
   try simp only [go_sem]
   refine acall_xa (ref01_Put16_ok (b ++ [f + 16] ++ [IntKind.u8.wrap k]) v.length (by simp; omega)) [] [] ?_
   try simp only [go_sem]
   have hh := hdS_big (f := f) (k := k) hc0
   refine hK4 _ _ _ ⟨(), [3], ?_, ?_⟩
   ·
    (try simp (disch := omega) only [w_i64, w_u8, w_u16, w_u32, w_u64]); simp only [Lss, go_sem, hh]
    exact ⟨by simp, rfl⟩
    all_goals first | rfl | omega | trivial
   ·
    trivial
  ·
   skip
   try simp only [decide_eq_true_eq, decide_eq_false_iff_not, Bool.not_eq_true', Bool.not_eq_false', Bool.and_eq_true, Bool.or_eq_true, Bool.or_eq_false_iff, Bool.and_eq_false_imp] at hc0
   refine awp_seq_k fun K8 hK8 => ?_
   refine awp_regionL (by rfl) ?_
   try simp only [go_sem]
   try simp (disch := omega) only [w_i64, w_u8, w_u16, w_u32, w_u64]
   refine app_row rfl rfl rfl (by first | rfl | (simp only [go_sem, List.length_append, List.length_map, bl_length]; done) | (simp; done) | (simp; omega)) rfl (.inl rfl) (by decide) tby5 (by (try simp only [go_sem, List.length_append, List.length_map, bl_length]); first | omega | (simp; done) | (simp; omega)) (by (try simp only [go_sem, List.length_append, List.length_map, bl_length]); first | omega | (simp; done) | (simp; omega)) ?_
   try simp only [go_sem]
   try simp (disch := omega) only [w_i64, w_u8, w_u16, w_u32, w_u64]
   simp only [bl_snoc]
   refine hK8 _ _ _ (awp_keep [2, 3, 9] ?_)
   try clear hK8 K8
   try simp only [go_sem]
   refine awp_seq_k fun K9 hK9 => ?_
   refine awp_regionL (by rfl) ?_
   try simp only [go_sem]
   try simp (disch := omega) only [w_i64, w_u8, w_u16, w_u32, w_u64]
   refine app_row rfl rfl rfl (by first | rfl | (simp only [go_sem, List.length_append, List.length_map, bl_length]; done) | (simp; done) | (simp; omega)) rfl (.inl rfl) (by decide) tby5 (by (try simp only [go_sem, List.length_append, List.length_map, bl_length]); first | omega | (simp; done) | (simp; omega)) (by (try simp only [go_sem, List.length_append, List.length_map, bl_length]); first | omega | (simp; done) | (simp; omega)) ?_
   try simp only [go_sem]
   try simp (disch := omega) only [w_i64, w_u8, w_u16, w_u32, w_u64]
   simp only [bl_snoc]
   refine hK9 _ _ _ (awp_keep [3, 9] ?_)
   try clear hK9 K9
   try simp only [go_sem]
   refine awp_regionL (by rfl) ?_
   try simp only [go_sem]
   try simp (disch := omega) only [w_i64, w_u8, w_u16, w_u32, w_u64]
   refine app_row rfl rfl rfl (by first | rfl | (simp only [go_sem, List.length_append, List.length_map, bl_length]; done) | (simp; done) | (simp; omega)) rfl (.inl rfl) (by decide) tby5 (by (try simp only [go_sem, List.length_append, List.length_map, bl_length]); first | omega | (simp; done) | (simp; omega)) (by (try simp only [go_sem, List.length_append, List.length_map, bl_length]); first | omega | (simp; done) | (simp; omega)) ?_
   try simp only [go_sem]
   try simp (disch := omega) only [w_i64, w_u8, w_u16, w_u32, w_u64]
   simp only [bl_snoc]
   have hh := hdS_small (f := f) (k := k) hc0
   refine hK4 _ _ _ ⟨(), [0], ?_, ?_⟩
   ·
    (try simp (disch := omega) only [w_i64, w_u8, w_u16, w_u32, w_u64]); simp only [Lss, go_sem, hh]
    exact ⟨by simp, rfl⟩
    all_goals first | rfl | omega | trivial
   ·
    trivial
 ·
  rintro _u hj
  try simp only [go_sem]
  refine awp_seq_k fun K10 hK10 => ?_
  refine awp_regionL (by rfl) ?_
  try simp only [go_sem]
  refine app_row rfl rfl rfl (by first | rfl | (simp only [go_sem, List.length_append, List.length_map, bl_length]; done) | (simp; done) | (simp; omega)) rfl (.inl rfl) (by decide) tby5 (by (try simp only [go_sem, List.length_append, List.length_map, bl_length]); first | omega | (simp; done) | (simp; omega)) (by (try simp only [go_sem, List.length_append, List.length_map, bl_length]); first | omega | (simp; done) | (simp; omega)) ?_
  try simp only [go_sem]
  refine hK10 _ _ _ (awp_keep [9] ?_)
  try clear hK10 K10
  try simp only [go_sem]
  refine awp_seq_k fun K11 hK11 => ?_
  refine awp_regionL (by rfl) ?_
  try simp only [go_sem]
  refine hK11 _ _ _ (awp_keep [8] ?_)
  try clear hK11 K11
  try simp only [go_sem]
  refine awp_ret ?_
  try simp only [go_sem]
  try clear hK11 K11
  try clear hK10 K10
  try clear hK9 K9
  try clear hK8 K8
  try clear hK7 K7
  try clear hK6 K6
  try clear hK5 K5
  try clear hK4 K4
  try clear hK3 K3
  try clear hK2 K2
  try clear hK1 K1
  refine ret_x [0] (by simp) (by rfl) ?_ (by rfl) ?_ (by rfl) (by simp) (by simp) (by rfl) ?_ <;> ((try simp (disch := omega) only [w_i64, w_u8, w_u16, w_u32, w_u64]); simp only [go_sem]) <;> (first | (rw [← bl_append]; rfl) | (rw [← bl_append, List.append_assoc]; rfl) | (simp [attrS]; done) | rfl | omega)
end

set_option maxRecDepth 20000 in
set_option maxHeartbeats 8000000 in
theorem attrs_narrow_ok (n : Int) (h : u32r n) : ACX Go.Proofs.Tryd.prog G0 41 [.l (.int .u32 n)] [] [] (.l (.int .i64 (if 65535 < n then 23456 else n))) [] [] := by
 refine acalls_intro Go.Proofs.Tryd.func41 rfl (by kernel_rfl) Go.Proofs.Tryd.ntmps41 Go.Proofs.Tryd.results41 (by simp) rfl rfl ?_
 try simp only [go_sem]
 unfold u32r at h
 refine awp_seq_k fun K1 hK1 => ?_
 refine awp_regionL (by rfl) ?_
 try simp only [go_sem]
 refine hK1 _ _ _ (awp_keep [0] ?_)
 try clear hK1 K1
 try simp only [go_sem]
 refine awp_seq_k fun K2 hK2 => ?_
 refine awp_seq_k fun K3 hK3 => ?_
 refine awp_regionL (by rfl) ?_
 try simp only [go_sem]
 refine hK3 _ _ _ (awp_keep [0, 4] ?_)
 try clear hK3 K3
 try simp only [go_sem]
 refine awp_cond (by rfl) (fun hc0 => ?_) (fun hc0 => ?_)
 ·
  skip
  try simp only [decide_eq_true_eq, decide_eq_false_iff_not, Bool.not_eq_true', Bool.not_eq_false', Bool.and_eq_true, Bool.or_eq_true, Bool.or_eq_false_iff, Bool.and_eq_false_imp] at hc0
  refine awp_seq_k fun K4 hK4 => ?_
  refine awp_regionL (by rfl) ?_
  try simp only [go_sem]
  refine hK4 _ _ _ (awp_keep [2] ?_)
  try clear hK4 K4
  try simp only [go_sem]
  refine awp_ret ?_
  try simp only [go_sem]
  try clear hK4 K4
  try clear hK3 K3
  try clear hK2 K2
  try clear hK1 K1
  refine ret_p (by simp) (by rfl) ?_ (by rfl)
  (try simp (disch := omega) only [w_i64, w_u8, w_u16, w_u32, w_u64]); simp only [go_sem] <;> (simp [hc0])
 ·
  skip
  try simp only [decide_eq_true_eq, decide_eq_false_iff_not, Bool.not_eq_true', Bool.not_eq_false', Bool.and_eq_true, Bool.or_eq_true, Bool.or_eq_false_iff, Bool.and_eq_false_imp] at hc0
  refine awp_skip ?_
  try simp only [go_sem]
  refine hK2 _ _ _ (awp_keep [0] ?_)
  try clear hK2 K2
  try simp only [go_sem]
  refine awp_seq_k fun K5 hK5 => ?_
  refine awp_regionL (by rfl) ?_
  try simp only [go_sem]
  try simp (disch := omega) only [w_i64, w_u8, w_u16, w_u32, w_u64]
  refine hK5 _ _ _ (awp_keep [2] ?_)
  try clear hK5 K5
  try simp only [go_sem]
  refine awp_ret ?_
  try simp only [go_sem]
  try clear hK5 K5
  try clear hK4 K4
  try clear hK3 K3
  try clear hK2 K2
  try clear hK1 K1
  refine ret_p (by simp) (by rfl) ?_ (by rfl)
  (try simp (disch := omega) only [w_i64, w_u8, w_u16, w_u32, w_u64]); simp only [go_sem] <;> (simp [hc0])

set_option maxRecDepth 20000 in
set_option maxHeartbeats 8000000 in
theorem wideNeeded_1_ok (n : Int) : ACX Go.Proofs.Tryd.prog G0 63 [.l (.int .u32 n)] [] [] (.l (.bool (decide (65535 < n)))) [] [] := by
 refine acalls_intro Go.Proofs.Tryd.func63 rfl (by kernel_rfl) Go.Proofs.Tryd.ntmps63 Go.Proofs.Tryd.results63 (by simp) rfl rfl ?_
 try simp only [go_sem]
 refine awp_seq_k fun K1 hK1 => ?_
 refine awp_regionL (by rfl) ?_
 try simp only [go_sem]
 refine hK1 _ _ _ (awp_keep [0] ?_)
 try clear hK1 K1
 try simp only [go_sem]
 refine awp_seq_k fun K2 hK2 => ?_
 refine awp_regionL (by rfl) ?_
 try simp only [go_sem]
 refine hK2 _ _ _ (awp_keep [2] ?_)
 try clear hK2 K2
 try simp only [go_sem]
 refine awp_ret ?_
 try simp only [go_sem]
 try clear hK2 K2
 try clear hK1 K1
 refine ret_p (by simp) (by rfl) ?_ (by rfl)
 (try simp (disch := omega) only [w_i64, w_u8, w_u16, w_u32, w_u64]); simp only [go_sem] <;> (first | rfl | omega | trivial | (simp; done) | simp_all)

def bigS (l : List Int) : Bool := l.any fun n => decide (65535 < n)
def idxW : List Int → Int
  | [] => -1
  | n :: l => if 65535 < n then 0 else if idxW l < 0 then -1 else idxW l + 1
theorem idxW_at : ∀ (l : List Int) (k : Nat) (h : k < l.length), (∀ n ∈ l.take k, ¬ 65535 < n) → 65535 < l[k] → idxW l = k
  | [], k, h, _, _ => by simp at h
  | n :: l, 0, _, _, hk => by simp only [List.getElem_cons_zero] at hk; simp [idxW, hk]
  | n :: l, k + 1, h, hn, hk => by
    have ih := idxW_at l k (by simpa using h) (fun m hm => hn m (by simp [hm])) (by simpa using hk)
    have h0 := hn n (by simp)
    simp only [idxW, if_neg h0, ih]
    rw [if_neg (by omega)]; omega
theorem idxW_none : ∀ (l : List Int), (∀ n ∈ l, ¬ 65535 < n) → idxW l = -1
  | [], _ => rfl
  | n :: l, h => by
    have ih := idxW_none l fun m hm => h m (List.mem_cons_of_mem _ hm)
    have h0 := h n List.mem_cons_self
    simp [idxW, h0, ih]
theorem idxW_big : ∀ (l : List Int), decide (0 ≤ idxW l) = bigS l
  | [] => rfl
  | n :: l => by
    have ih := idxW_big l
    by_cases h0 : 65535 < n
    · simp [idxW, bigS, h0]
    · by_cases h1 : idxW l < 0
      · have h2 : decide (0 ≤ idxW l) = false := by simp; omega
        rw [h2] at ih
        have : bigS (n :: l) = bigS l := by simp [bigS, h0]
        rw [this, ← ih]
        simp [idxW, h0, h1]
      · have h2 : decide (0 ≤ idxW l) = true := by simp; omega
        rw [h2] at ih
        have : bigS (n :: l) = bigS l := by simp [bigS, h0]
        rw [this, ← ih]
        simp [idxW, h0, h1]; omega
theorem take_no_succ {l : List Int} {k : Nat} (hk : k < l.length) (h : ∀ n ∈ l.take k, ¬ 65535 < n) (h2 : ¬ 65535 < l[k]) : ∀ n ∈ l.take (k + 1), ¬ 65535 < n := by
  intro n hn
  rw [List.take_succ_eq_append_getElem hk, List.mem_append, List.mem_singleton] at hn
  rcases hn with hn | rfl
  · exact h n hn
  · exact h2

section
attribute [local go_sem] u32s
set_option maxRecDepth 20000 in
set_option maxHeartbeats 8000000 in
theorem IndexFunc_u32_ok (l : List Int) : ACX Go.Proofs.Tryd.prog G0 79 [.l (u32s l), .l (.fn 63 [])] [] [] (.l (.int .i64 (idxW l))) [] [] := by
 refine acalls_intro Go.Proofs.Tryd.func79 rfl (by kernel_rfl) Go.Proofs.Tryd.ntmps79 Go.Proofs.Tryd.results79 (by simp) rfl rfl ?_
 try simp only [go_sem]
 refine awp_len 0 rfl fun hlen => ?_
 simp only [ul_length] at hlen
 refine awp_seq_k fun K1 hK1 => ?_
 refine awp_regionL (by rfl) ?_
 try simp only [go_sem]
 refine hK1 _ _ _ (awp_keep [0, 1] ?_)
 try clear hK1 K1
 try simp only [go_sem]
 refine awp_seq_k fun K2 hK2 => ?_
 refine awp_seq_k fun K3 hK3 => ?_
 refine awp_regionL (by rfl) ?_
 try simp only [go_sem]
 refine hK3 _ _ _ (awp_keep [0, 1, 7, 8] ?_)
 try clear hK3 K3
 try simp only [go_sem]
 refine awp_block ?_
 refine awp_loopE (α := (Nat)) (fun (k : (Nat)) => k ≤ l.length ∧ ∀ n ∈ l.take k, ¬ 65535 < n) (fun (k : (Nat)) => l.length - k) (fun (k : (Nat)) => [(8, .l (.int .i64 (k : Int)))]) (fun (k : (Nat)) => []) (fun (k : (Nat)) => []) [0, 1, 7] 0 [] ?_ ?_ ?_
 ·
  simp only [Lss, go_sem]
  (repeat' apply And.intro) <;> first | rfl | omega | trivial | (simp; done)
 ·
  exact ⟨by omega, by simp⟩
 rintro k ⟨hk, hno⟩ K4 hK4
 try simp only [go_sem]
 refine awp_seq_k fun K5 hK5 => ?_
 refine awp_regionL (by rfl) ?_
 try simp only [go_sem]
 refine hK5 _ _ _ (awp_keep [0, 1, 7, 8, 9] ?_)
 try clear hK5 K5
 try simp only [go_sem]
 refine awp_seq_k fun K6 hK6 => ?_
 refine awp_cond (by rfl) (fun hc0 => ?_) (fun hc0 => ?_)
 ·
  skip
  try simp only [decide_eq_true_eq, decide_eq_false_iff_not, Bool.not_eq_true', Bool.not_eq_false', Bool.and_eq_true, Bool.or_eq_true, Bool.or_eq_false_iff, Bool.and_eq_false_imp] at hc0
  have hk2 : k < l.length := by omega
  refine awp_skip ?_
  try simp only [go_sem]
  refine hK6 _ _ _ (awp_keep [0, 1, 7, 8] ?_)
  try clear hK6 K6
  try simp only [go_sem]
  refine awp_seq_k fun K7 hK7 => ?_
  refine awp_block ?_
  refine awp_seq_k fun K8 hK8 => ?_
  refine awp_regionL (by rfl) ?_
  try simp only [go_sem]
  refine hK8 _ _ _ (awp_keep [0, 1, 5, 7, 8] ?_)
  try clear hK8 K8
  try simp only [go_sem]
  refine awp_seq_k fun K9 hK9 => ?_
  refine awp_regionL (by rfl) ?_
  try simp only [go_sem]
  refine ix_map k rfl (by omega) ?_
  try simp only [go_sem]
  refine acall_pa (wideNeeded_1_ok l[k]) ?_
  try simp only [go_sem]
  refine hK9 _ _ _ (awp_keep [0, 1, 5, 7, 8, 16] ?_)
  try clear hK9 K9
  try simp only [go_sem]
  refine awp_cond (by rfl) (fun hc1 => ?_) (fun hc1 => ?_)
  ·
   skip
   try simp only [decide_eq_true_eq, decide_eq_false_iff_not, Bool.not_eq_true', Bool.not_eq_false', Bool.and_eq_true, Bool.or_eq_true, Bool.or_eq_false_iff, Bool.and_eq_false_imp] at hc1
   refine awp_seq_k fun K10 hK10 => ?_
   refine awp_regionL (by rfl) ?_
   try simp only [go_sem]
   refine hK10 _ _ _ (awp_keep [4] ?_)
   try clear hK10 K10
   try simp only [go_sem]
   refine awp_ret ?_
   try simp only [go_sem]
   try clear hK10 K10
   try clear hK9 K9
   try clear hK8 K8
   try clear hK7 K7
   try clear hK6 K6
   try clear hK5 K5
   try clear hK4 K4
   try clear hK3 K3
   try clear hK2 K2
   try clear hK1 K1
   refine ret_p (by simp) (by rfl) ?_ (by rfl)
   (try simp (disch := omega) only [w_i64, w_u8, w_u16, w_u32, w_u64]); simp only [go_sem] <;> (exact (idxW_at l k hk2 hno hc1).symm)
  ·
   skip
   try simp only [decide_eq_true_eq, decide_eq_false_iff_not, Bool.not_eq_true', Bool.not_eq_false', Bool.and_eq_true, Bool.or_eq_true, Bool.or_eq_false_iff, Bool.and_eq_false_imp] at hc1
   refine awp_skip ?_
   try simp only [go_sem]
   refine hK7 _ _ _ (awp_keep [0, 1, 7, 8] ?_)
   try clear hK7 K7
   try simp only [go_sem]
   refine awp_regionL (by rfl) ?_
   try simp only [go_sem]
   try simp (disch := omega) only [w_i64, w_u8, w_u16, w_u32, w_u64]
   refine hK4 _ _ _ ⟨k + 1, [], ?_, ?_⟩
   ·
    (try simp (disch := omega) only [w_i64, w_u8, w_u16, w_u32, w_u64]); simp only [Lss, go_sem]
    (repeat' apply And.intro) <;> first | rfl | omega | trivial | (simp; done)
   ·
    exact ⟨⟨by omega, take_no_succ hk2 hno hc1⟩, by omega⟩
 ·
  skip
  try simp only [decide_eq_true_eq, decide_eq_false_iff_not, Bool.not_eq_true', Bool.not_eq_false', Bool.and_eq_true, Bool.or_eq_true, Bool.or_eq_false_iff, Bool.and_eq_false_imp] at hc0
  obtain rfl : k = l.length := by omega
  simp only [List.take_length] at hno
  refine awp_exit ?_
  try simp only [go_sem]
  refine hK2 _ _ _ (awp_keep [] ?_)
  try clear hK2 K2
  try simp only [go_sem]
  refine awp_seq_k fun K11 hK11 => ?_
  refine awp_regionL (by rfl) ?_
  try simp only [go_sem]
  refine hK11 _ _ _ (awp_keep [4] ?_)
  try clear hK11 K11
  try simp only [go_sem]
  refine awp_ret ?_
  try simp only [go_sem]
  try clear hK11 K11
  try clear hK10 K10
  try clear hK9 K9
  try clear hK8 K8
  try clear hK7 K7
  try clear hK6 K6
  try clear hK5 K5
  try clear hK4 K4
  try clear hK3 K3
  try clear hK2 K2
  try clear hK1 K1
  refine ret_p (by simp) (by rfl) ?_ (by rfl)
  (try simp (disch := omega) only [w_i64, w_u8, w_u16, w_u32, w_u64]); simp only [go_sem] <;> (exact (idxW_none l hno).symm)
end

section
attribute [local go_sem] u32s
set_option maxRecDepth 20000 in
set_option maxHeartbeats 8000000 in
theorem ContainsFunc_u32_ok (l : List Int) : ACX Go.Proofs.Tryd.prog G0 61 [.l (u32s l), .l (.fn 63 [])] [] [] (.l (.bool (bigS l))) [] [] := by
 refine acalls_intro Go.Proofs.Tryd.func61 rfl (by kernel_rfl) Go.Proofs.Tryd.ntmps61 Go.Proofs.Tryd.results61 (by simp) rfl rfl ?_
 try simp only [go_sem]
 refine awp_seq_k fun K1 hK1 => ?_
 refine awp_regionL (by rfl) ?_
 try simp only [go_sem]
 refine hK1 _ _ _ (awp_keep [0, 1] ?_)
 try clear hK1 K1
 try simp only [go_sem]
 refine awp_seq_k fun K2 hK2 => ?_
 refine awp_regionL (by rfl) ?_
 try simp only [go_sem]
 refine acall_pa (IndexFunc_u32_ok l) ?_
 try simp only [go_sem]
 refine hK2 _ _ _ (awp_keep [4] ?_)
 try clear hK2 K2
 try simp only [go_sem]
 refine awp_ret ?_
 try simp only [go_sem]
 try clear hK2 K2
 try clear hK1 K1
 refine ret_p (by simp) (by rfl) ?_ (by rfl)
 (try simp (disch := omega) only [w_i64, w_u8, w_u16, w_u32, w_u64]); simp only [go_sem] <;> (exact idxW_big l)
end

section
attribute [local go_sem] segs
set_option maxRecDepth 20000 in
set_option maxHeartbeats 8000000 in
theorem attrs_wideNeeded_ok (l : List Seg) (hl : tot l ≤ 1000000000) : ACX Go.Proofs.Tryd.prog G0 44 [.l (segs l)] [] [] (.l (.bool (bigS (flat l)))) [] [] := by
 refine acalls_intro Go.Proofs.Tryd.func44 rfl (by kernel_rfl) Go.Proofs.Tryd.ntmps44 Go.Proofs.Tryd.results44 (by simp) rfl rfl ?_
 try simp only [go_sem]
 refine awp_seq_k fun K1 hK1 => ?_
 refine awp_regionL (by rfl) ?_
 try simp only [go_sem]
 refine hK1 _ _ _ (awp_keep [0] ?_)
 try clear hK1 K1
 try simp only [go_sem]
 refine awp_seq_k fun K2 hK2 => ?_
 refine awp_regionL (by rfl) ?_
 try simp only [go_sem]
 refine acall_pa (acx_read (aspath_Flat_ok l hl)) ?_
 try simp only [go_sem]
 refine acall_pa (ContainsFunc_u32_ok (flat l)) ?_
 try simp only [go_sem]
 refine hK2 _ _ _ (awp_keep [2] ?_)
 try clear hK2 K2
 try simp only [go_sem]
 refine awp_ret ?_
 try simp only [go_sem]
 try clear hK2 K2
 try clear hK1 K1
 refine ret_p (by simp) (by rfl) ?_ (by rfl)
 (try simp (disch := omega) only [w_i64, w_u8, w_u16, w_u32, w_u64]); simp only [go_sem] <;> (first | rfl | omega | trivial | (simp; done) | simp_all)
end

def fpartS (l : List Seg) (s : Seg) (k j : Nat) : List Int := flat (l.take k) ++ s.nums.take j
theorem fpartS_succ (l : List Seg) (s : Seg) (k j : Nat) (h : j < s.nums.length) : fpartS l s k (j + 1) = fpartS l s k j ++ [s.nums[j]] := by
  simp only [fpartS, List.take_succ_eq_append_getElem h, List.append_assoc]
theorem fpartS_zero (l : List Seg) (s : Seg) (k : Nat) : fpartS l s k 0 = flat (l.take k) := by simp [fpartS]
theorem fpartS_full (l : List Seg) (k : Nat) (h : k < l.length) : fpartS l l[k] k l[k].nums.length = flat (l.take (k + 1)) := by
  rw [flat_take_succ l k h, fpartS, List.take_length]
theorem fpartS_len (l : List Seg) (k j : Nat) (h : k < l.length) : ((fpartS l l[k] k j).length : Int) ≤ tot l := by
  have e1 := flat_len (l.take k)
  have e2 := tot_take_succ l k h
  have e3 := tot_take_le l (k + 1)
  have e4 : (l[k].nums.take j).length ≤ l[k].nums.length := by simp; omega
  simp only [fpartS, List.length_append]; omega

section
attribute [local go_sem] segs Seg.cells u32s
set_option maxRecDepth 20000 in
set_option maxHeartbeats 8000000 in
theorem ref03_Flat_ok (l : List Seg) (h1 : l.length ≤ 1000) (h2 : tot l ≤ 1000000) : ACX Go.Proofs.Tryd.prog G0 25 [.l (segs l)] [] [] (.l (.slice (.row 0) 1 (ul (flat l)))) [] [(23, (flat l).length)] := by
 refine acalls_intro Go.Proofs.Tryd.func25 rfl (by kernel_rfl) Go.Proofs.Tryd.ntmps25 Go.Proofs.Tryd.results25 (by simp) rfl rfl ?_
 try simp only [go_sem]
 refine awp_seq_k fun K1 hK1 => ?_
 refine awp_regionL (by rfl) ?_
 try simp only [go_sem]
 refine hK1 _ _ _ (awp_keep [0] ?_)
 try clear hK1 K1
 try simp only [go_sem]
 refine awp_seq_k fun K2 hK2 => ?_
 refine awp_regionL (by rfl) ?_
 try simp only [go_sem]
 refine hK2 _ _ _ (awp_keep [0, 3] ?_)
 try clear hK2 K2
 try simp only [go_sem]
 refine awp_seq_k fun K3 hK3 => ?_
 refine awp_seq_k fun K4 hK4 => ?_
 refine awp_regionL (by rfl) ?_
 try simp only [go_sem]
 refine hK4 _ _ _ (awp_keep [0, 3, 4] ?_)
 try clear hK4 K4
 try simp only [go_sem]
 refine awp_block ?_
 refine awp_begin 3 23 1 rfl ?_
 simp only [go_sem]
 refine awp_loopE (α := (Nat)) (fun (k : (Nat)) => k ≤ l.length) (fun (k : (Nat)) => l.length - k) (fun (k : (Nat)) => [(3, .l (.slice (.row 0) 1 (ul (flat (l.take k))))), (4, .l (.int .i64 (k : Int)))]) (fun (k : (Nat)) => []) (fun (k : (Nat)) => [(23, (flat (l.take k)).length)]) [0] 0 [0] ?_ ?_ ?_
 ·
  simp only [Lss, go_sem]
  simp [flat, ul]
  all_goals first | rfl | omega | trivial
 ·
  first | trivial | omega | (simp; done) | (constructor <;> omega)
 rintro k hk K5 hK5
 try simp only [go_sem]
 refine awp_seq_k fun K6 hK6 => ?_
 refine awp_seq_k fun K7 hK7 => ?_
 refine awp_regionL (by rfl) ?_
 try simp only [go_sem]
 refine hK7 _ _ _ (awp_keep [0, 3, 4, 9] ?_)
 try clear hK7 K7
 try simp only [go_sem]
 refine awp_cond (by rfl) (fun hc0 => ?_) (fun hc0 => ?_)
 ·
  skip
  try simp only [decide_eq_true_eq, decide_eq_false_iff_not, Bool.not_eq_true', Bool.not_eq_false', Bool.and_eq_true, Bool.or_eq_true, Bool.or_eq_false_iff, Bool.and_eq_false_imp] at hc0
  have hk2 : k < l.length := by omega
  refine awp_skip ?_
  try simp only [go_sem]
  refine hK6 _ _ _ (awp_keep [0, 3, 4] ?_)
  try clear hK6 K6
  try simp only [go_sem]
  refine awp_seq_k fun K8 hK8 => ?_
  refine awp_block ?_
  refine awp_seq_k fun K9 hK9 => ?_
  refine awp_regionL (by rfl) ?_
  try simp only [go_sem]
  refine hK9 _ _ _ (awp_keep [0, 3, 4, 5] ?_)
  try clear hK9 K9
  try simp only [go_sem]
  refine awp_block ?_
  refine awp_loopE (α := (Nat)) (fun (j : (Nat)) => j ≤ l[k].nums.length) (fun (j : (Nat)) => l[k].nums.length - j) (fun (j : (Nat)) => [(3, .l (.slice (.row 0) 1 (ul (fpartS l l[k] k j)))), (5, .l (.int .i64 (j : Int)))]) (fun (j : (Nat)) => []) (fun (j : (Nat)) => [(23, (fpartS l l[k] k j).length)]) [0, 4] 0 [0] ?_ ?_ ?_
  ·
   simp only [Lss, go_sem]
   simp [fpartS_zero]
   all_goals first | rfl | omega | trivial
  ·
   first | trivial | omega | (simp; done) | (constructor <;> omega)
  rintro j hj K10 hK10
  try simp only [go_sem]
  have hnt := nums_tot l k hk2
  have hfl := fpartS_len l k j hk2
  refine awp_seq_k fun K11 hK11 => ?_
  refine awp_seq_k fun K12 hK12 => ?_
  refine awp_regionL (by rfl) ?_
  try simp only [go_sem]
  refine ix_map k rfl (by omega) ?_
  try simp only [go_sem]
  refine hK12 _ _ _ (awp_keep [0, 3, 4, 5, 19] ?_)
  try clear hK12 K12
  try simp only [go_sem]
  refine awp_cond (by rfl) (fun hc1 => ?_) (fun hc1 => ?_)
  ·
   skip
   try simp only [decide_eq_true_eq, decide_eq_false_iff_not, Bool.not_eq_true', Bool.not_eq_false', Bool.and_eq_true, Bool.or_eq_true, Bool.or_eq_false_iff, Bool.and_eq_false_imp] at hc1
   have hj2 : j < l[k].nums.length := by omega
   refine awp_skip ?_
   try simp only [go_sem]
   refine hK11 _ _ _ (awp_keep [0, 3, 4, 5] ?_)
   try clear hK11 K11
   try simp only [go_sem]
   refine awp_seq_k fun K13 hK13 => ?_
   refine awp_block ?_
   refine awp_regionL (by rfl) ?_
   try simp only [go_sem]
   refine ix_map k rfl (by omega) ?_
   try simp only [go_sem]
   refine ix_map j rfl (by omega) ?_
   try simp only [go_sem]
   refine app_row rfl rfl rfl (by first | rfl | (simp only [go_sem, List.length_append, List.length_map, bl_length]; done) | (simp; done) | (simp; omega)) rfl (.inl rfl) (by decide) tby23 (by (try simp only [go_sem, List.length_append, List.length_map, bl_length]); first | omega | (simp; done) | (simp; omega)) (by (try simp only [go_sem, List.length_append, List.length_map, bl_length]); first | omega | (simp; done) | (simp; omega)) ?_
   try simp only [go_sem]
   refine hK13 _ _ _ (awp_keep [0, 3, 4, 5] ?_)
   try clear hK13 K13
   try simp only [go_sem]
   refine awp_regionL (by rfl) ?_
   try simp only [go_sem]
   try simp (disch := omega) only [w_i64, w_u8, w_u16, w_u32, w_u64]
   have hsu := fpartS_succ l l[k] k j hj2
   refine hK10 _ _ _ ⟨j + 1, [0], ?_, ?_⟩
   ·
    (try simp (disch := omega) only [w_i64, w_u8, w_u16, w_u32, w_u64]); simp only [Lss, go_sem, hsu, ul_snoc, List.length_append, List.length_cons, List.length_nil]
    (repeat' apply And.intro) <;> first | rfl | omega | trivial | (simp; done)
   ·
    first | omega | (constructor <;> omega) | trivial
  ·
   skip
   try simp only [decide_eq_true_eq, decide_eq_false_iff_not, Bool.not_eq_true', Bool.not_eq_false', Bool.and_eq_true, Bool.or_eq_true, Bool.or_eq_false_iff, Bool.and_eq_false_imp] at hc1
   obtain rfl : j = l[k].nums.length := by omega
   refine awp_exit ?_
   try simp only [go_sem]
   refine hK8 _ _ _ (awp_keep [0, 3, 4] ?_)
   try clear hK8 K8
   try simp only [go_sem]
   refine awp_regionL (by rfl) ?_
   try simp only [go_sem]
   try simp (disch := omega) only [w_i64, w_u8, w_u16, w_u32, w_u64]
   have hpf := fpartS_full l k hk2
   refine hK5 _ _ _ ⟨k + 1, [0], ?_, ?_⟩
   ·
    (try simp (disch := omega) only [w_i64, w_u8, w_u16, w_u32, w_u64]); simp only [Lss, go_sem, hpf]
    (repeat' apply And.intro) <;> first | rfl | omega | trivial | (simp; done)
   ·
    exact ⟨by omega, by omega⟩
 ·
  skip
  try simp only [decide_eq_true_eq, decide_eq_false_iff_not, Bool.not_eq_true', Bool.not_eq_false', Bool.and_eq_true, Bool.or_eq_true, Bool.or_eq_false_iff, Bool.and_eq_false_imp] at hc0
  obtain rfl : k = l.length := by omega
  simp only [List.take_length]
  refine awp_exit ?_
  try simp only [go_sem]
  refine hK3 _ _ _ (awp_keep [3] ?_)
  try clear hK3 K3
  try simp only [go_sem]
  refine awp_seq_k fun K14 hK14 => ?_
  refine awp_regionL (by rfl) ?_
  try simp only [go_sem]
  refine hK14 _ _ _ (awp_keep [2] ?_)
  try clear hK14 K14
  try simp only [go_sem]
  refine awp_ret ?_
  try simp only [go_sem]
  try clear hK14 K14
  try clear hK13 K13
  try clear hK12 K12
  try clear hK11 K11
  try clear hK10 K10
  try clear hK9 K9
  try clear hK8 K8
  try clear hK7 K7
  try clear hK6 K6
  try clear hK5 K5
  try clear hK4 K4
  try clear hK3 K3
  try clear hK2 K2
  try clear hK1 K1
  refine ret_x [0] (by simp) (by rfl) ?_ (by rfl) ?_ (by rfl) (by simp) (by simp) (by rfl) ?_ <;> ((try simp (disch := omega) only [w_i64, w_u8, w_u16, w_u32, w_u64]); simp only [go_sem]) <;> (first | rfl | omega | trivial | (simp; done) | simp_all)
end

end Go.Abs
