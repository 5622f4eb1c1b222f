/-
  PATHS AS BYTES: what the program and the document's answer put.
-/
import Derived.Test.YtajeoodipplmlaaDoorT13
import Derived.Test.YtajeoodipplmlaaDoorT4
set_option linter.all false
namespace Go.Abs
open Go Go.Proofs
def numS (w : Bool) (n : Int) : List Int := if w = true then put32S n else if 65535 < n then put16S 23456 else put16S n
def segS (w : Bool) (s : Seg) : List Int := [IntKind.u8.wrap s.kind, IntKind.u8.wrap (s.nums.length : Int)] ++ s.nums.flatMap (numS w)
def pathS (w : Bool) (l : List Seg) : List Int := l.flatMap (segS w)
def partS (w : Bool) (l : List Seg) (s : Seg) (k j : Nat) : List Int := pathS w (l.take k) ++ ([IntKind.u8.wrap s.kind, IntKind.u8.wrap (s.nums.length : Int)] ++ (s.nums.take j).flatMap (numS w))
theorem numS_len (w : Bool) (n : Int) : (numS w n).length ≤ 4 := by
  unfold numS
  split
  · simp
  · split <;> simp
theorem nums_len (w : Bool) (l : List Int) : (l.flatMap (numS w)).length ≤ 4 * l.length := by
  induction l with
  | nil => simp
  | cons n l ih =>
    have := numS_len w n
    simp only [List.flatMap_cons, List.length_append, List.length_cons]; omega
theorem segS_len (w : Bool) (s : Seg) : (segS w s).length ≤ 2 + 4 * s.nums.length := by
  have := nums_len w s.nums
  simp only [segS, List.length_append, List.length_cons, List.length_nil]; omega
theorem pathS_len (w : Bool) (l : List Seg) : ((pathS w l).length : Int) ≤ 2 * l.length + 4 * tot l := by
  induction l with
  | nil => simp [pathS, tot]
  | cons s l ih =>
    have := segS_len w s
    have h : pathS w (s :: l) = segS w s ++ pathS w l := rfl
    rw [h, List.length_append, List.length_cons, tot]; omega
theorem pathS_succ (w : Bool) (l : List Seg) (k : Nat) (h : k < l.length) : pathS w (l.take (k + 1)) = pathS w (l.take k) ++ segS w l[k] := by
  rw [List.take_succ_eq_append_getElem h, pathS, List.flatMap_append]; simp [pathS]
theorem partS_len (w : Bool) (l : List Seg) (s : Seg) (k j : Nat) (h1 : l.length ≤ 1000) (h2 : tot l ≤ 1000000) (h3 : (s.nums.length : Int) ≤ 1000000) : (partS w l s k j).length ≤ 100000000 := by
  have e1 := pathS_len w (l.take k)
  have e2 := tot_take_le l k
  have e3 := nums_len w (s.nums.take j)
  have e4 : (l.take k).length ≤ l.length := by simp; omega
  have e5 : (s.nums.take j).length ≤ s.nums.length := by simp; omega
  simp only [partS, List.length_append, List.length_cons, List.length_nil]; omega
theorem partS_succ (w : Bool) (l : List Seg) (s : Seg) (k j : Nat) (h : j < s.nums.length) : partS w l s k (j + 1) = partS w l s k j ++ numS w s.nums[j] := by
  simp only [partS, List.take_succ_eq_append_getElem h, List.flatMap_append, List.flatMap_cons, List.flatMap_nil, List.append_nil, List.append_assoc]
theorem partS_zero (w : Bool) (l : List Seg) (s : Seg) (k : Nat) : partS w l s k 0 = pathS w (l.take k) ++ [IntKind.u8.wrap s.kind, IntKind.u8.wrap (s.nums.length : Int)] := by simp [partS]
theorem partS_full (w : Bool) (l : List Seg) (k : Nat) (h : k < l.length) : partS w l l[k] k l[k].nums.length = pathS w (l.take (k + 1)) := by
  rw [pathS_succ w l k h, partS, List.take_length]; rfl
theorem nums_tot (l : List Seg) (k : Nat) (h : k < l.length) : (l[k].nums.length : Int) ≤ tot l := by
  have e1 := tot_take_succ l k h
  have e2 := tot_take_le l (k + 1)
  have e3 := tot_nonneg (l.take k)
  omega

section
attribute [local go_sem] segs Seg.cells u32s
set_option maxRecDepth 20000 in
set_option maxHeartbeats 8000000 in
theorem aspath_Put_ok (l : List Seg) (w : Bool) (h1 : l.length ≤ 1000) (h2 : tot l ≤ 1000000) (hp : ∀ s ∈ l, ∀ n ∈ s.nums, u32r n) : ACX Go.Proofs.Tryd.prog G0 43 [.l (segs l), .l (.bool w)] [] [] (.l (.slice (.row 0) 1 (bl (pathS w l)))) [] [(5, (pathS w l).length)] := by
 refine acalls_intro Go.Proofs.Tryd.func43 rfl (by kernel_rfl) Go.Proofs.Tryd.ntmps43 Go.Proofs.Tryd.results43 (by simp) rfl rfl ?_
 try simp only [go_sem]
 refine awp_len 0 rfl fun hlen => ?_
 simp only [sgl_length] at hlen
 refine awp_seq_k fun K1 hK1 => ?_
 refine awp_regionL (by rfl) ?_
 try simp only [go_sem]
 refine hK1 _ _ _ (awp_keep [0, 1] ?_)
 try clear hK1 K1
 try simp only [go_sem]
 refine awp_seq_k fun K2 hK2 => ?_
 refine awp_regionL (by rfl) ?_
 try simp only [go_sem]
 refine hK2 _ _ _ (awp_keep [0, 1, 5] ?_)
 try clear hK2 K2
 try simp only [go_sem]
 refine awp_seq_k fun K3 hK3 => ?_
 refine awp_seq_k fun K4 hK4 => ?_
 refine awp_regionL (by rfl) ?_
 try simp only [go_sem]
 refine hK4 _ _ _ (awp_keep [1, 5, 10, 11, 12] ?_)
 try clear hK4 K4
 try simp only [go_sem]
 refine awp_block ?_
 refine awp_begin 5 5 1 rfl ?_
 simp only [go_sem]
 refine awp_loopE (α := (Nat)) (fun (k : (Nat)) => k ≤ l.length) (fun (k : (Nat)) => l.length - k) (fun (k : (Nat)) => [(5, .l (.slice (.row 0) 1 (bl (pathS w (l.take k))))), (12, .l (.int .i64 (k : Int)))]) (fun (k : (Nat)) => []) (fun (k : (Nat)) => [(5, (pathS w (l.take k)).length)]) [1, 10, 11] 0 [0] ?_ ?_ ?_
 ·
  simp only [Lss, go_sem]
  simp [pathS, bl]
  all_goals first | rfl | omega | trivial
 ·
  first | trivial | omega | (simp; done) | (constructor <;> omega)
 rintro k hk K5 hK5
 try simp only [go_sem]
 have hpl := pathS_len w (l.take k)
 have htl := tot_take_le l k
 have hkl : (l.take k).length = k := by simp; omega
 refine awp_seq_k fun K6 hK6 => ?_
 refine awp_regionL (by rfl) ?_
 try simp only [go_sem]
 refine hK6 _ _ _ (awp_keep [1, 5, 10, 11, 12, 13] ?_)
 try clear hK6 K6
 try simp only [go_sem]
 refine awp_seq_k fun K7 hK7 => ?_
 refine awp_cond (by rfl) (fun hc0 => ?_) (fun hc0 => ?_)
 ·
  skip
  try simp only [decide_eq_true_eq, decide_eq_false_iff_not, Bool.not_eq_true', Bool.not_eq_false', Bool.and_eq_true, Bool.or_eq_true, Bool.or_eq_false_iff, Bool.and_eq_false_imp] at hc0
  have hk2 : k < l.length := by omega
  refine awp_skip ?_
  try simp only [go_sem]
  refine hK7 _ _ _ (awp_keep [1, 5, 10, 11, 12] ?_)
  try clear hK7 K7
  try simp only [go_sem]
  refine awp_seq_k fun K8 hK8 => ?_
  refine awp_block ?_
  refine awp_seq_k fun K9 hK9 => ?_
  refine awp_regionL (by rfl) ?_
  try simp only [go_sem]
  refine ix_map k rfl (by omega) ?_
  try simp only [go_sem]
  refine hK9 _ _ _ (awp_keep [1, 5, 7, 10, 11, 12] ?_)
  try clear hK9 K9
  try simp only [go_sem]
  refine awp_seq_k fun K10 hK10 => ?_
  refine awp_regionL (by rfl) ?_
  try simp only [go_sem]
  try simp (disch := omega) only [w_i64, w_u8, w_u16, w_u32, w_u64]
  refine app_row rfl rfl rfl (by first | rfl | (simp only [go_sem, List.length_append, List.length_map, bl_length]; done) | (simp; done) | (simp; omega)) rfl (.inl rfl) (by decide) tby5 (by (try simp only [go_sem, List.length_append, List.length_map, bl_length]); first | omega | (simp; done) | (simp; omega)) (by (try simp only [go_sem, List.length_append, List.length_map, bl_length]); first | omega | (simp; done) | (simp; omega)) ?_
  try simp only [go_sem]
  try simp (disch := omega) only [w_i64, w_u8, w_u16, w_u32, w_u64]
  refine hK10 _ _ _ (awp_keep [1, 5, 7, 10, 11, 12] ?_)
  try clear hK10 K10
  try simp only [go_sem]
  refine awp_seq_k fun K11 hK11 => ?_
  refine awp_regionL (by rfl) ?_
  try simp only [go_sem]
  refine hK11 _ _ _ (awp_keep [1, 5, 10, 11, 12, 27, 28, 29] ?_)
  try clear hK11 K11
  try simp only [go_sem]
  refine awp_block ?_
  refine awp_loopE (α := (Nat)) (fun (j : (Nat)) => j ≤ l[k].nums.length) (fun (j : (Nat)) => l[k].nums.length - j) (fun (j : (Nat)) => [(5, .l (.slice (.row 0) 1 (bl (partS w l l[k] k j)))), (29, .l (.int .i64 (j : Int)))]) (fun (j : (Nat)) => [⟨82, l[k].cells⟩]) (fun (j : (Nat)) => [(5, (partS w l l[k] k j).length)]) [1, 10, 11, 12, 27, 28] 0 [0] ?_ ?_ ?_
  ·
   simp only [Lss, go_sem]
   exact ⟨by rw [partS_zero, bl_append]; rfl, rfl, by rw [partS_zero]; simp⟩
   all_goals first | rfl | omega | trivial
  ·
   first | trivial | omega | (simp; done) | (constructor <;> omega)
  rintro j hj K12 hK12
  try simp only [go_sem]
  refine awp_seq_k fun K13 hK13 => ?_
  refine awp_regionL (by rfl) ?_
  try simp only [go_sem]
  refine hK13 _ _ _ (awp_keep [1, 5, 10, 11, 12, 27, 28, 29, 30] ?_)
  try clear hK13 K13
  try simp only [go_sem]
  refine awp_seq_k fun K14 hK14 => ?_
  refine awp_cond (by rfl) (fun hc1 => ?_) (fun hc1 => ?_)
  ·
   skip
   try simp only [decide_eq_true_eq, decide_eq_false_iff_not, Bool.not_eq_true', Bool.not_eq_false', Bool.and_eq_true, Bool.or_eq_true, Bool.or_eq_false_iff, Bool.and_eq_false_imp] at hc1
   have hj2 : j < l[k].nums.length := by omega
   have hnt := nums_tot l k hk2
   refine awp_skip ?_
   try simp only [go_sem]
   refine hK14 _ _ _ (awp_keep [1, 5, 10, 11, 12, 27, 28, 29] ?_)
   try clear hK14 K14
   try simp only [go_sem]
   refine awp_seq_k fun K15 hK15 => ?_
   refine awp_block ?_
   refine awp_seq_k fun K16 hK16 => ?_
   refine awp_regionL (by rfl) ?_
   try simp only [go_sem]
   refine ix_map j rfl (by omega) ?_
   try simp only [go_sem]
   refine hK16 _ _ _ (awp_keep [1, 5, 9, 10, 11, 12, 27, 28, 29] ?_)
   try clear hK16 K16
   try simp only [go_sem]
   refine awp_block ?_
   refine awp_seq_k fun K17 hK17 => ?_
   refine awp_regionL (by rfl) ?_
   try simp only [go_sem]
   refine hK17 _ _ _ (awp_keep [1, 5, 9, 10, 11, 12, 27, 28, 29, 37] ?_)
   try clear hK17 K17
   try simp only [go_sem]
   refine awp_cond (by rfl) (fun hc2 => ?_) (fun hc2 => ?_)
   ·
    skip
    try simp only [decide_eq_true_eq, decide_eq_false_iff_not, Bool.not_eq_true', Bool.not_eq_false', Bool.and_eq_true, Bool.or_eq_true, Bool.or_eq_false_iff, Bool.and_eq_false_imp] at hc2
    have hsu : partS w l l[k] k (j + 1) = partS w l l[k] k j ++ put32S l[k].nums[j] := by rw [partS_succ w l l[k] k j hj2, numS, if_pos hc2]
    refine awp_regionL (by rfl) ?_
    try simp only [go_sem]
    refine acall_xa (oct32_ok (partS w l l[k] k j) l[k].nums[j] (Nat.le_trans (partS_len w l l[k] k j h1 h2 (by have := nums_tot l k hk2; omega)) (by decide)) (hp _ (List.getElem_mem hk2) _ (List.getElem_mem hj2)).1 (hp _ (List.getElem_mem hk2) _ (List.getElem_mem hj2)).2) [] [] ?_
    try simp only [go_sem]
    refine hK15 _ _ _ (awp_keep [1, 5, 10, 11, 12, 27, 28, 29] ?_)
    try simp only [go_sem]
    refine awp_regionL (by rfl) ?_
    try simp only [go_sem]
    try simp (disch := omega) only [w_i64, w_u8, w_u16, w_u32, w_u64]
    refine hK12 _ _ _ ⟨j + 1, [1], ?_, ?_⟩
    ·
     (try simp (disch := omega) only [w_i64, w_u8, w_u16, w_u32, w_u64]); simp only [Lss, go_sem, hsu, List.length_append, put16S_length, put32S_length]
     (repeat' apply And.intro) <;> first | rfl | omega | trivial | (simp; done)
    ·
     first | omega | (constructor <;> omega) | trivial
   ·
    skip
    try simp only [decide_eq_true_eq, decide_eq_false_iff_not, Bool.not_eq_true', Bool.not_eq_false', Bool.and_eq_true, Bool.or_eq_true, Bool.or_eq_false_iff, Bool.and_eq_false_imp] at hc2
    refine awp_seq_k fun K18 hK18 => ?_
    refine awp_regionL (by rfl) ?_
    try simp only [go_sem]
    refine hK18 _ _ _ (awp_keep [1, 5, 9, 10, 11, 12, 27, 28, 29, 42] ?_)
    try clear hK18 K18
    try simp only [go_sem]
    refine awp_cond (by rfl) (fun hc3 => ?_) (fun hc3 => ?_)
    ·
     skip
     try simp only [decide_eq_true_eq, decide_eq_false_iff_not, Bool.not_eq_true', Bool.not_eq_false', Bool.and_eq_true, Bool.or_eq_true, Bool.or_eq_false_iff, Bool.and_eq_false_imp] at hc3
     have hsu : partS w l l[k] k (j + 1) = partS w l l[k] k j ++ put16S 23456 := by rw [partS_succ w l l[k] k j hj2, numS, if_neg (by simp [hc2]), if_pos hc3]
     refine awp_regionL (by rfl) ?_
     try simp only [go_sem]
     refine acall_xa (oct16_ok (partS w l l[k] k j) 23456 (Nat.le_trans (partS_len w l l[k] k j h1 h2 (by have := nums_tot l k hk2; omega)) (by decide))) [] [] ?_
     try simp only [go_sem]
     refine hK15 _ _ _ (awp_keep [1, 5, 10, 11, 12, 27, 28, 29] ?_)
     try simp only [go_sem]
     refine awp_regionL (by rfl) ?_
     try simp only [go_sem]
     try simp (disch := omega) only [w_i64, w_u8, w_u16, w_u32, w_u64]
     refine hK12 _ _ _ ⟨j + 1, [1], ?_, ?_⟩
     ·
      (try simp (disch := omega) only [w_i64, w_u8, w_u16, w_u32, w_u64]); simp only [Lss, go_sem, hsu, List.length_append, put16S_length, put32S_length]
      (repeat' apply And.intro) <;> first | rfl | omega | trivial | (simp; done)
     ·
      first | omega | (constructor <;> omega) | trivial
    ·
     skip
     try simp only [decide_eq_true_eq, decide_eq_false_iff_not, Bool.not_eq_true', Bool.not_eq_false', Bool.and_eq_true, Bool.or_eq_true, Bool.or_eq_false_iff, Bool.and_eq_false_imp] at hc3
     have hsu : partS w l l[k] k (j + 1) = partS w l l[k] k j ++ put16S (IntKind.i64.wrap l[k].nums[j]) := by
      have hu := hp _ (List.getElem_mem hk2) _ (List.getElem_mem hj2)
      unfold u32r at hu
      rw [partS_succ w l l[k] k j hj2, numS, if_neg (by simp [hc2]), if_neg hc3, w_i64 (by omega) (by omega)]
     refine awp_regionL (by rfl) ?_
     try simp only [go_sem]
     refine acall_xa (oct16_ok (partS w l l[k] k j) (IntKind.i64.wrap l[k].nums[j]) (Nat.le_trans (partS_len w l l[k] k j h1 h2 (by have := nums_tot l k hk2; omega)) (by decide))) [] [] ?_
     try simp only [go_sem]
     try simp (disch := omega) only [w_i64, w_u8, w_u16, w_u32, w_u64]
     refine hK15 _ _ _ (awp_keep [1, 5, 10, 11, 12, 27, 28, 29] ?_)
     try simp only [go_sem]
     refine awp_regionL (by rfl) ?_
     try simp only [go_sem]
     try simp (disch := omega) only [w_i64, w_u8, w_u16, w_u32, w_u64]
     refine hK12 _ _ _ ⟨j + 1, [1], ?_, ?_⟩
     ·
      (try simp (disch := omega) only [w_i64, w_u8, w_u16, w_u32, w_u64]); simp only [Lss, go_sem, hsu, List.length_append, put16S_length, put32S_length]
      (repeat' apply And.intro) <;> first | rfl | omega | trivial | (simp; done)
     ·
      first | omega | (constructor <;> omega) | trivial
  ·
   skip
   try simp only [decide_eq_true_eq, decide_eq_false_iff_not, Bool.not_eq_true', Bool.not_eq_false', Bool.and_eq_true, Bool.or_eq_true, Bool.or_eq_false_iff, Bool.and_eq_false_imp] at hc1
   obtain rfl : j = l[k].nums.length := by omega
   refine awp_exit ?_
   try simp only [go_sem]
   refine hK8 _ _ _ (awp_keep [1, 5, 10, 11, 12] ?_)
   try clear hK8 K8
   try simp only [go_sem]
   refine awp_regionL (by rfl) ?_
   try simp only [go_sem]
   try simp (disch := omega) only [w_i64, w_u8, w_u16, w_u32, w_u64]
   have hpf := partS_full w l k hk2
   refine hK5 _ _ _ ⟨k + 1, [0], ?_, ?_⟩
   ·
    (try simp (disch := omega) only [w_i64, w_u8, w_u16, w_u32, w_u64]); simp only [Lss, go_sem, hpf]
    (repeat' apply And.intro) <;> first | rfl | omega | trivial | (simp; done)
   ·
    exact ⟨by omega, by omega⟩
 ·
  skip
  try simp only [decide_eq_true_eq, decide_eq_false_iff_not, Bool.not_eq_true', Bool.not_eq_false', Bool.and_eq_true, Bool.or_eq_true, Bool.or_eq_false_iff, Bool.and_eq_false_imp] at hc0
  obtain rfl : k = l.length := by omega
  simp only [List.take_length]
  refine awp_exit ?_
  try simp only [go_sem]
  refine hK3 _ _ _ (awp_keep [5] ?_)
  try clear hK3 K3
  try simp only [go_sem]
  refine awp_seq_k fun K19 hK19 => ?_
  refine awp_regionL (by rfl) ?_
  try simp only [go_sem]
  refine hK19 _ _ _ (awp_keep [4] ?_)
  try clear hK19 K19
  try simp only [go_sem]
  refine awp_ret ?_
  try simp only [go_sem]
  try clear hK19 K19
  try clear hK18 K18
  try clear hK17 K17
  try clear hK16 K16
  try clear hK15 K15
  try clear hK14 K14
  try clear hK13 K13
  try clear hK12 K12
  try clear hK11 K11
  try clear hK10 K10
  try clear hK9 K9
  try clear hK8 K8
  try clear hK7 K7
  try clear hK6 K6
  try clear hK5 K5
  try clear hK4 K4
  try clear hK3 K3
  try clear hK2 K2
  try clear hK1 K1
  refine ret_x [0] (by simp) (by rfl) ?_ (by rfl) ?_ (by rfl) (by simp) (by simp) (by rfl) ?_ <;> ((try simp (disch := omega) only [w_i64, w_u8, w_u16, w_u32, w_u64]); simp only [go_sem]) <;> (first | rfl | omega | trivial | (simp; done) | simp_all)
end

section
attribute [local go_sem] segs Seg.cells u32s
set_option maxRecDepth 20000 in
set_option maxHeartbeats 8000000 in
theorem ref03_Put_ok (l : List Seg) (w : Bool) (h1 : l.length ≤ 1000) (h2 : tot l ≤ 1000000) (hp : ∀ s ∈ l, ∀ n ∈ s.nums, u32r n) : ACX Go.Proofs.Tryd.prog G0 46 [.l (segs l), .l (.bool w)] [] [] (.l (.slice (.row 0) 1 (bl (pathS w l)))) [] [(5, (pathS w l).length)] := by
 refine acalls_intro Go.Proofs.Tryd.func46 rfl (by kernel_rfl) Go.Proofs.Tryd.ntmps46 Go.Proofs.Tryd.results46 (by simp) rfl rfl ?_
 try simp only [go_sem]
 refine awp_seq_k fun K1 hK1 => ?_
 refine awp_regionL (by rfl) ?_
 try simp only [go_sem]
 refine hK1 _ _ _ (awp_keep [0, 1] ?_)
 try clear hK1 K1
 try simp only [go_sem]
 refine awp_seq_k fun K2 hK2 => ?_
 refine awp_regionL (by rfl) ?_
 try simp only [go_sem]
 refine hK2 _ _ _ (awp_keep [0, 1, 5] ?_)
 try clear hK2 K2
 try simp only [go_sem]
 refine awp_seq_k fun K3 hK3 => ?_
 refine awp_seq_k fun K4 hK4 => ?_
 refine awp_regionL (by rfl) ?_
 try simp only [go_sem]
 refine hK4 _ _ _ (awp_keep [0, 1, 5, 6] ?_)
 try clear hK4 K4
 try simp only [go_sem]
 refine awp_block ?_
 refine awp_begin 5 5 1 rfl ?_
 simp only [go_sem]
 refine awp_loopE (α := (Nat)) (fun (k : (Nat)) => k ≤ l.length) (fun (k : (Nat)) => l.length - k) (fun (k : (Nat)) => [(5, .l (.slice (.row 0) 1 (bl (pathS w (l.take k))))), (6, .l (.int .i64 (k : Int)))]) (fun (k : (Nat)) => []) (fun (k : (Nat)) => [(5, (pathS w (l.take k)).length)]) [0, 1] 0 [0] ?_ ?_ ?_
 ·
  simp only [Lss, go_sem]
  simp [pathS, bl]
  all_goals first | rfl | omega | trivial
 ·
  first | trivial | omega | (simp; done) | (constructor <;> omega)
 rintro k hk K5 hK5
 try simp only [go_sem]
 have hpl := pathS_len w (l.take k)
 have htl := tot_take_le l k
 have hkl : (l.take k).length = k := by simp; omega
 refine awp_seq_k fun K6 hK6 => ?_
 refine awp_seq_k fun K7 hK7 => ?_
 refine awp_regionL (by rfl) ?_
 try simp only [go_sem]
 refine hK7 _ _ _ (awp_keep [0, 1, 5, 6, 12] ?_)
 try clear hK7 K7
 try simp only [go_sem]
 refine awp_cond (by rfl) (fun hc0 => ?_) (fun hc0 => ?_)
 ·
  skip
  try simp only [decide_eq_true_eq, decide_eq_false_iff_not, Bool.not_eq_true', Bool.not_eq_false', Bool.and_eq_true, Bool.or_eq_true, Bool.or_eq_false_iff, Bool.and_eq_false_imp] at hc0
  have hk2 : k < l.length := by omega
  refine awp_skip ?_
  try simp only [go_sem]
  refine hK6 _ _ _ (awp_keep [0, 1, 5, 6] ?_)
  try clear hK6 K6
  try simp only [go_sem]
  refine awp_seq_k fun K8 hK8 => ?_
  refine awp_block ?_
  refine awp_seq_k fun K9 hK9 => ?_
  refine awp_regionL (by rfl) ?_
  try simp only [go_sem]
  try simp (disch := omega) only [w_i64, w_u8, w_u16, w_u32, w_u64]
  refine ix_map k rfl (by omega) ?_
  try simp only [go_sem]
  try simp (disch := omega) only [w_i64, w_u8, w_u16, w_u32, w_u64]
  refine app_row rfl rfl rfl (by first | rfl | (simp only [go_sem, List.length_append, List.length_map, bl_length]; done) | (simp; done) | (simp; omega)) rfl (.inl rfl) (by decide) tby5 (by (try simp only [go_sem, List.length_append, List.length_map, bl_length]); first | omega | (simp; done) | (simp; omega)) (by (try simp only [go_sem, List.length_append, List.length_map, bl_length]); first | omega | (simp; done) | (simp; omega)) ?_
  try simp only [go_sem]
  try simp (disch := omega) only [w_i64, w_u8, w_u16, w_u32, w_u64]
  refine hK9 _ _ _ (awp_keep [0, 1, 5, 6] ?_)
  try clear hK9 K9
  try simp only [go_sem]
  refine awp_seq_k fun K10 hK10 => ?_
  refine awp_regionL (by rfl) ?_
  try simp only [go_sem]
  try simp (disch := omega) only [w_i64, w_u8, w_u16, w_u32, w_u64]
  refine ix_map k rfl (by omega) ?_
  try simp only [go_sem]
  try simp (disch := omega) only [w_i64, w_u8, w_u16, w_u32, w_u64]
  refine app_row rfl rfl rfl (by first | rfl | (simp only [go_sem, List.length_append, List.length_map, bl_length]; done) | (simp; done) | (simp; omega)) rfl (.inl rfl) (by decide) tby5 (by (try simp only [go_sem, List.length_append, List.length_map, bl_length]); first | omega | (simp; done) | (simp; omega)) (by (try simp only [go_sem, List.length_append, List.length_map, bl_length]); first | omega | (simp; done) | (simp; omega)) ?_
  try simp only [go_sem]
  try simp (disch := omega) only [w_i64, w_u8, w_u16, w_u32, w_u64]
  refine hK10 _ _ _ (awp_keep [0, 1, 5, 6] ?_)
  try clear hK10 K10
  try simp only [go_sem]
  refine awp_seq_k fun K11 hK11 => ?_
  refine awp_regionL (by rfl) ?_
  try simp only [go_sem]
  refine hK11 _ _ _ (awp_keep [0, 1, 5, 6, 7] ?_)
  try clear hK11 K11
  try simp only [go_sem]
  refine awp_block ?_
  refine awp_loopE (α := (Nat)) (fun (j : (Nat)) => j ≤ l[k].nums.length) (fun (j : (Nat)) => l[k].nums.length - j) (fun (j : (Nat)) => [(5, .l (.slice (.row 0) 1 (bl (partS w l l[k] k j)))), (7, .l (.int .i64 (j : Int)))]) (fun (j : (Nat)) => []) (fun (j : (Nat)) => [(5, (partS w l l[k] k j).length)]) [0, 1, 6] 0 [0] ?_ ?_ ?_
  ·
   simp only [Lss, go_sem]
   first | exact ⟨by rw [partS_zero, bl_append, List.append_assoc]; rfl, rfl, by rw [partS_zero]; simp [bl_length]⟩ | trace_state
   all_goals first | rfl | omega | trivial
  ·
   first | trivial | omega | (simp; done) | (constructor <;> omega)
  rintro j hj K12 hK12
  try simp only [go_sem]
  have hnt := nums_tot l k hk2
  refine awp_seq_k fun K13 hK13 => ?_
  refine awp_seq_k fun K14 hK14 => ?_
  refine awp_regionL (by rfl) ?_
  try simp only [go_sem]
  refine ix_map k rfl (by omega) ?_
  try simp only [go_sem]
  refine hK14 _ _ _ (awp_keep [0, 1, 5, 6, 7, 41] ?_)
  try clear hK14 K14
  try simp only [go_sem]
  refine awp_cond (by rfl) (fun hc1 => ?_) (fun hc1 => ?_)
  ·
   skip
   try simp only [decide_eq_true_eq, decide_eq_false_iff_not, Bool.not_eq_true', Bool.not_eq_false', Bool.and_eq_true, Bool.or_eq_true, Bool.or_eq_false_iff, Bool.and_eq_false_imp] at hc1
   have hj2 : j < l[k].nums.length := by omega
   refine awp_skip ?_
   try simp only [go_sem]
   refine hK13 _ _ _ (awp_keep [0, 1, 5, 6, 7] ?_)
   try clear hK13 K13
   try simp only [go_sem]
   refine awp_seq_k fun K15 hK15 => ?_
   refine awp_block ?_
   refine awp_seq_k fun K16 hK16 => ?_
   refine awp_regionL (by rfl) ?_
   try simp only [go_sem]
   refine ix_map k rfl (by omega) ?_
   try simp only [go_sem]
   refine ix_map j rfl (by omega) ?_
   try simp only [go_sem]
   refine hK16 _ _ _ (awp_keep [0, 1, 5, 6, 7, 8] ?_)
   try clear hK16 K16
   try simp only [go_sem]
   refine awp_seq_k fun K17 hK17 => ?_
   refine awp_regionL (by rfl) ?_
   try simp only [go_sem]
   refine hK17 _ _ _ (awp_keep [0, 1, 5, 6, 7, 8, 52] ?_)
   try clear hK17 K17
   try simp only [go_sem]
   refine awp_cond (by rfl) (fun hc2 => ?_) (fun hc2 => ?_)
   ·
    skip
    try simp only [decide_eq_true_eq, decide_eq_false_iff_not, Bool.not_eq_true', Bool.not_eq_false', Bool.and_eq_true, Bool.or_eq_true, Bool.or_eq_false_iff, Bool.and_eq_false_imp] at hc2
    have hsu : partS w l l[k] k (j + 1) = partS w l l[k] k j ++ put32S l[k].nums[j] := by rw [partS_succ w l l[k] k j hj2, numS, if_pos hc2]
    refine awp_regionL (by rfl) ?_
    try simp only [go_sem]
    refine acall_xa (ref01_Put32_ok (partS w l l[k] k j) l[k].nums[j] (partS_len w l l[k] k j h1 h2 (by have := nums_tot l k hk2; omega)) (hp _ (List.getElem_mem hk2) _ (List.getElem_mem hj2)).1 (hp _ (List.getElem_mem hk2) _ (List.getElem_mem hj2)).2) [] [] ?_
    try simp only [go_sem]
    refine hK15 _ _ _ (awp_keep [0, 1, 5, 6, 7] ?_)
    try simp only [go_sem]
    refine awp_regionL (by rfl) ?_
    try simp only [go_sem]
    try simp (disch := omega) only [w_i64, w_u8, w_u16, w_u32, w_u64]
    refine hK12 _ _ _ ⟨j + 1, [1], ?_, ?_⟩
    ·
     (try simp (disch := omega) only [w_i64, w_u8, w_u16, w_u32, w_u64]); simp only [Lss, go_sem, hsu, List.length_append, put16S_length, put32S_length]
     (repeat' apply And.intro) <;> first | rfl | omega | trivial | (simp; done)
    ·
     first | omega | (constructor <;> omega) | trivial
   ·
    skip
    try simp only [decide_eq_true_eq, decide_eq_false_iff_not, Bool.not_eq_true', Bool.not_eq_false', Bool.and_eq_true, Bool.or_eq_true, Bool.or_eq_false_iff, Bool.and_eq_false_imp] at hc2
    refine awp_seq_k fun K18 hK18 => ?_
    refine awp_regionL (by rfl) ?_
    try simp only [go_sem]
    refine hK18 _ _ _ (awp_keep [0, 1, 5, 6, 7, 8, 57] ?_)
    try clear hK18 K18
    try simp only [go_sem]
    refine awp_cond (by rfl) (fun hc3 => ?_) (fun hc3 => ?_)
    ·
     skip
     try simp only [decide_eq_true_eq, decide_eq_false_iff_not, Bool.not_eq_true', Bool.not_eq_false', Bool.and_eq_true, Bool.or_eq_true, Bool.or_eq_false_iff, Bool.and_eq_false_imp] at hc3
     have hsu : partS w l l[k] k (j + 1) = partS w l l[k] k j ++ put16S 23456 := by rw [partS_succ w l l[k] k j hj2, numS, if_neg (by simp [hc2]), if_pos hc3]
     refine awp_regionL (by rfl) ?_
     try simp only [go_sem]
     refine acall_xa (ref01_Put16_ok (partS w l l[k] k j) 23456 (Nat.le_trans (partS_len w l l[k] k j h1 h2 (by have := nums_tot l k hk2; omega)) (by decide))) [] [] ?_
     try simp only [go_sem]
     refine hK15 _ _ _ (awp_keep [0, 1, 5, 6, 7] ?_)
     try simp only [go_sem]
     refine awp_regionL (by rfl) ?_
     try simp only [go_sem]
     try simp (disch := omega) only [w_i64, w_u8, w_u16, w_u32, w_u64]
     refine hK12 _ _ _ ⟨j + 1, [1], ?_, ?_⟩
     ·
      (try simp (disch := omega) only [w_i64, w_u8, w_u16, w_u32, w_u64]); simp only [Lss, go_sem, hsu, List.length_append, put16S_length, put32S_length]
      (repeat' apply And.intro) <;> first | rfl | omega | trivial | (simp; done)
     ·
      first | omega | (constructor <;> omega) | trivial
    ·
     skip
     try simp only [decide_eq_true_eq, decide_eq_false_iff_not, Bool.not_eq_true', Bool.not_eq_false', Bool.and_eq_true, Bool.or_eq_true, Bool.or_eq_false_iff, Bool.and_eq_false_imp] at hc3
     have hsu : partS w l l[k] k (j + 1) = partS w l l[k] k j ++ put16S (IntKind.i64.wrap l[k].nums[j]) := by
      have hu := hp _ (List.getElem_mem hk2) _ (List.getElem_mem hj2)
      unfold u32r at hu
      rw [partS_succ w l l[k] k j hj2, numS, if_neg (by simp [hc2]), if_neg hc3, w_i64 (by omega) (by omega)]
     refine awp_regionL (by rfl) ?_
     try simp only [go_sem]
     refine acall_xa (ref01_Put16_ok (partS w l l[k] k j) (IntKind.i64.wrap l[k].nums[j]) (Nat.le_trans (partS_len w l l[k] k j h1 h2 (by have := nums_tot l k hk2; omega)) (by decide))) [] [] ?_
     try simp only [go_sem]
     try simp (disch := omega) only [w_i64, w_u8, w_u16, w_u32, w_u64]
     refine hK15 _ _ _ (awp_keep [0, 1, 5, 6, 7] ?_)
     try simp only [go_sem]
     refine awp_regionL (by rfl) ?_
     try simp only [go_sem]
     try simp (disch := omega) only [w_i64, w_u8, w_u16, w_u32, w_u64]
     refine hK12 _ _ _ ⟨j + 1, [1], ?_, ?_⟩
     ·
      (try simp (disch := omega) only [w_i64, w_u8, w_u16, w_u32, w_u64]); simp only [Lss, go_sem, hsu, List.length_append, put16S_length, put32S_length]
      (repeat' apply And.intro) <;> first | rfl | omega | trivial | (simp; done)
     ·
      first | omega | (constructor <;> omega) | trivial
  ·
   skip
   try simp only [decide_eq_true_eq, decide_eq_false_iff_not, Bool.not_eq_true', Bool.not_eq_false', Bool.and_eq_true, Bool.or_eq_true, Bool.or_eq_false_iff, Bool.and_eq_false_imp] at hc1
   obtain rfl : j = l[k].nums.length := by omega
   refine awp_exit ?_
   try simp only [go_sem]
   refine hK8 _ _ _ (awp_keep [0, 1, 5, 6] ?_)
   try clear hK8 K8
   try simp only [go_sem]
   refine awp_regionL (by rfl) ?_
   try simp only [go_sem]
   try simp (disch := omega) only [w_i64, w_u8, w_u16, w_u32, w_u64]
   have hpf := partS_full w l k hk2
   refine hK5 _ _ _ ⟨k + 1, [0], ?_, ?_⟩
   ·
    (try simp (disch := omega) only [w_i64, w_u8, w_u16, w_u32, w_u64]); simp only [Lss, go_sem, hpf]
    (repeat' apply And.intro) <;> first | rfl | omega | trivial | (simp; done)
   ·
    exact ⟨by omega, by omega⟩
 ·
  skip
  try simp only [decide_eq_true_eq, decide_eq_false_iff_not, Bool.not_eq_true', Bool.not_eq_false', Bool.and_eq_true, Bool.or_eq_true, Bool.or_eq_false_iff, Bool.and_eq_false_imp] at hc0
  obtain rfl : k = l.length := by omega
  simp only [List.take_length]
  refine awp_exit ?_
  try simp only [go_sem]
  refine hK3 _ _ _ (awp_keep [5] ?_)
  try clear hK3 K3
  try simp only [go_sem]
  refine awp_seq_k fun K19 hK19 => ?_
  refine awp_regionL (by rfl) ?_
  try simp only [go_sem]
  refine hK19 _ _ _ (awp_keep [4] ?_)
  try clear hK19 K19
  try simp only [go_sem]
  refine awp_ret ?_
  try simp only [go_sem]
  try clear hK19 K19
  try clear hK18 K18
  try clear hK17 K17
  try clear hK16 K16
  try clear hK15 K15
  try clear hK14 K14
  try clear hK13 K13
  try clear hK12 K12
  try clear hK11 K11
  try clear hK10 K10
  try clear hK9 K9
  try clear hK8 K8
  try clear hK7 K7
  try clear hK6 K6
  try clear hK5 K5
  try clear hK4 K4
  try clear hK3 K3
  try clear hK2 K2
  try clear hK1 K1
  refine ret_x [0] (by simp) (by rfl) ?_ (by rfl) ?_ (by rfl) (by simp) (by simp) (by rfl) ?_ <;> ((try simp (disch := omega) only [w_i64, w_u8, w_u16, w_u32, w_u64]); simp only [go_sem]) <;> (first | rfl | omega | trivial | (simp; done) | simp_all)
end

end Go.Abs
