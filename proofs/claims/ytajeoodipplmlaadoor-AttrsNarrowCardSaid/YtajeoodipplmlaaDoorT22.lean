/-
  READING ATTRIBUTES, 3: two paths together.
-/
import Derived.Test.YtajeoodipplmlaaDoorT21
set_option linter.all false
namespace Go.Abs
open Go Go.Proofs
def hd1 (s : Seg) (n : Int) : Seg := if s.kind = 2 ∧ n < s.nums.length then ⟨s.kind, s.nums.take n.toNat⟩ else s
def headS : List Seg → Int → List Seg
  | [], _ => []
  | s :: l, n => if n ≤ 0 then [] else hd1 s n :: headS l (n - cnt [hd1 s n])
theorem headS_end {l : List Seg} {n : Int} (h : n ≤ 0) : headS l n = [] := by
  cases l <;> simp [headS, h]
theorem headS_drop {l : List Seg} {n : Int} {k : Nat} (hk : k < l.length) (h : ¬ n ≤ 0) : headS (l.drop k) n = hd1 l[k] n :: headS (l.drop (k + 1)) (n - cnt [hd1 l[k] n]) := by
  rw [List.drop_eq_getElem_cons hk, headS, if_neg h]
theorem headS_len : ∀ (l : List Seg) (n : Int), (headS l n).length ≤ l.length
  | [], _ => by simp [headS]
  | s :: l, n => by
    rw [headS]
    split
    · simp
    · have := headS_len l (n - cnt [hd1 s n])
      simp; omega
theorem hd1_len (s : Seg) (n : Int) : (hd1 s n).nums.length ≤ s.nums.length := by
  unfold hd1; split
  · simp; omega
  · exact Nat.le_refl _
theorem cnt_one (s : Seg) : 0 ≤ cnt [s] ∧ cnt [s] ≤ s.nums.length + 1 := by
  simp only [cnt]; split <;> omega
def mergeS (l more : List Seg) : List Seg :=
  if more = [] ∨ pathRight l = false ∨ pathRight more = false ∨ cnt l < cnt more then l
  else if pathRight (headS l (cnt l - cnt more) ++ more) = true then headS l (cnt l - cnt more) ++ more else l

section
attribute [local go_sem] segs Seg.cells u32s
set_option maxRecDepth 20000 in
set_option maxHeartbeats 8000000 in
theorem copied_1_ok (s : Seg) (hs : s.nums.length ≤ 1000000000) : ACX Go.Proofs.Tryd.prog G0 90 [.agg s.cells] [] [] (.l (segs [s])) [] [] := by
 refine acalls_intro Go.Proofs.Tryd.func90 rfl (by kernel_rfl) Go.Proofs.Tryd.ntmps90 Go.Proofs.Tryd.results90 (by simp) rfl rfl ?_
 try simp only [go_sem]
 refine awp_seq_k fun K1 hK1 => ?_
 refine awp_regionL (by rfl) ?_
 try simp only [go_sem]
 refine hK1 _ _ _ (awp_keep [1] ?_)
 try clear hK1 K1
 try simp only [go_sem]
 refine awp_seq_k fun K2 hK2 => ?_
 refine awp_drawP (by kernel_rfl) (by rfl) (by kernel_rfl) (fun _ => true) (.early 0 (.early 1 (.early 2 (.early 3 (.last 4 (.early 5 (.late 6 (.early 7 .done)))))))) (by kernel_rfl) (fun _ _ _ _ => by simp only [go_sem, not_false_eq_true]) ?_
 try simp only [go_sem]
 refine acall_pa (Clone_u32_ok s.nums hs) ?_
 try simp only [go_sem]
 refine hK2 _ _ _ (awp_keep [2] ?_)
 try clear hK2 K2
 try simp only [go_sem]
 refine awp_ret ?_
 try simp only [go_sem]
 try clear hK2 K2
 try clear hK1 K1
 refine ret_p (by simp) (by rfl) ?_ (by rfl)
 (try simp (disch := omega) only [w_i64, w_u8, w_u16, w_u32, w_u64]); simp only [go_sem] <;> (first | rfl | omega | trivial | (simp; done) | simp_all)
end

section
attribute [local go_sem] segs Seg.cells u32s
set_option maxRecDepth 20000 in
set_option maxHeartbeats 8000000 in
theorem gathered_seg_ok (l : List Seg) (hl : tot l ≤ 1000000000) (hn : l.length ≤ 1000000) : ACX Go.Proofs.Tryd.prog G0 89 [.l (segs l), .l (.fn 90 [])] [] [] (.l (.slice (.row 0) 2 (sgl l))) [] [(82, l.length)] := by
 refine acalls_intro Go.Proofs.Tryd.func89 rfl (by kernel_rfl) Go.Proofs.Tryd.ntmps89 Go.Proofs.Tryd.results89 (by simp) rfl rfl ?_
 try simp only [go_sem]
 refine awp_len 0 rfl fun hlen => ?_
 simp only [sgl_length] at hlen
 refine awp_seq_k fun K1 hK1 => ?_
 refine awp_regionL (by rfl) ?_
 try simp only [go_sem]
 refine hK1 _ _ _ (awp_keep [0, 1] ?_)
 try clear hK1 K1
 try simp only [go_sem]
 refine awp_seq_k fun K2 hK2 => ?_
 refine awp_regionL (by rfl) ?_
 try simp only [go_sem]
 refine hK2 _ _ _ (awp_keep [0, 1, 5] ?_)
 try clear hK2 K2
 try simp only [go_sem]
 refine awp_seq_k fun K3 hK3 => ?_
 refine awp_seq_k fun K4 hK4 => ?_
 refine awp_regionL (by rfl) ?_
 try simp only [go_sem]
 refine hK4 _ _ _ (awp_keep [1, 5, 8, 9, 10] ?_)
 try clear hK4 K4
 try simp only [go_sem]
 refine awp_block ?_
 refine awp_begin 5 82 2 rfl ?_
 simp only [go_sem]
 refine awp_loopE (α := (Nat)) (fun (k : (Nat)) => k ≤ l.length) (fun (k : (Nat)) => l.length - k) (fun (k : (Nat)) => [(5, .l (.slice (.row 0) 2 (sgl (l.take k)))), (10, .l (.int .i64 (k : Int)))]) (fun (k : (Nat)) => []) (fun (k : (Nat)) => [(82, (l.take k).length)]) [1, 8, 9] 0 [0] ?_ ?_ ?_
 ·
  simp only [Lss, go_sem]
  simp [sgl]
  all_goals first | rfl | omega | trivial
 ·
  first | trivial | omega | (simp; done) | (constructor <;> omega)
 rintro k hk K5 hK5
 try simp only [go_sem]
 have htl0 := tot_take_le l k
 have htk : (l.take k).length = k := by simp; omega
 refine awp_seq_k fun K6 hK6 => ?_
 refine awp_regionL (by rfl) ?_
 try simp only [go_sem]
 refine hK6 _ _ _ (awp_keep [1, 5, 8, 9, 10, 11] ?_)
 try clear hK6 K6
 try simp only [go_sem]
 refine awp_seq_k fun K7 hK7 => ?_
 refine awp_cond (by rfl) (fun hc0 => ?_) (fun hc0 => ?_)
 ·
  skip
  try simp only [decide_eq_true_eq, decide_eq_false_iff_not, Bool.not_eq_true', Bool.not_eq_false', Bool.and_eq_true, Bool.or_eq_true, Bool.or_eq_false_iff, Bool.and_eq_false_imp] at hc0
  have hk2 : k < l.length := by omega
  have hts := tot_take_succ l k hk2
  have htl := tot_take_le l (k + 1)
  have htn := tot_nonneg (l.take k)
  refine awp_skip ?_
  try simp only [go_sem]
  refine hK7 _ _ _ (awp_keep [1, 5, 8, 9, 10] ?_)
  try clear hK7 K7
  try simp only [go_sem]
  refine awp_seq_k fun K8 hK8 => ?_
  refine awp_block ?_
  refine awp_seq_k fun K9 hK9 => ?_
  refine awp_regionL (by rfl) ?_
  try simp only [go_sem]
  refine ix_map k rfl (by omega) ?_
  try simp only [go_sem]
  refine hK9 _ _ _ (awp_keep [1, 5, 7, 8, 9, 10] ?_)
  try clear hK9 K9
  try simp only [go_sem]
  refine awp_regionL (by rfl) ?_
  try simp only [go_sem]
  refine acall_pa (copied_1_ok l[k] (by omega)) ?_
  try simp only [go_sem]
  refine app_row rfl rfl rfl (by first | rfl | (simp only [go_sem, List.length_append, List.length_map, bl_length]; done) | (simp; done) | (simp; omega)) rfl (.inl rfl) (by decide) tby82 (by (try simp only [go_sem, List.length_append, List.length_map, bl_length]); first | omega | (simp; done) | (simp; omega)) (by (try simp only [go_sem, List.length_append, List.length_map, bl_length]); first | omega | (simp; done) | (simp; omega)) ?_
  try simp only [go_sem]
  refine hK8 _ _ _ (awp_keep [1, 5, 8, 9, 10] ?_)
  try clear hK8 K8
  try simp only [go_sem]
  refine awp_regionL (by rfl) ?_
  try simp only [go_sem]
  try simp (disch := omega) only [w_i64, w_u8, w_u16, w_u32, w_u64]
  have hs : l.take (k + 1) = l.take k ++ [l[k]] := List.take_succ_eq_append_getElem hk2
  refine hK5 _ _ _ ⟨k + 1, [0], ?_, ?_⟩
  ·
   (try simp (disch := omega) only [w_i64, w_u8, w_u16, w_u32, w_u64]); simp only [Lss, go_sem, hs, List.length_append, List.length_cons, List.length_nil]
   exact ⟨⟨by simp only [sgl, List.map_append], by omega⟩, rfl⟩
   all_goals first | rfl | omega | trivial
  ·
   exact ⟨by omega, by omega⟩
 ·
  skip
  try simp only [decide_eq_true_eq, decide_eq_false_iff_not, Bool.not_eq_true', Bool.not_eq_false', Bool.and_eq_true, Bool.or_eq_true, Bool.or_eq_false_iff, Bool.and_eq_false_imp] at hc0
  obtain rfl : k = l.length := by omega
  simp only [List.take_length]
  refine awp_exit ?_
  try simp only [go_sem]
  refine hK3 _ _ _ (awp_keep [5] ?_)
  try clear hK3 K3
  try simp only [go_sem]
  refine awp_seq_k fun K10 hK10 => ?_
  refine awp_regionL (by rfl) ?_
  try simp only [go_sem]
  refine hK10 _ _ _ (awp_keep [4] ?_)
  try clear hK10 K10
  try simp only [go_sem]
  refine awp_ret ?_
  try simp only [go_sem]
  try clear hK10 K10
  try clear hK9 K9
  try clear hK8 K8
  try clear hK7 K7
  try clear hK6 K6
  try clear hK5 K5
  try clear hK4 K4
  try clear hK3 K3
  try clear hK2 K2
  try clear hK1 K1
  refine ret_x [0] (by simp) (by rfl) ?_ (by rfl) ?_ (by rfl) (by simp) (by simp) (by rfl) ?_ <;> ((try simp (disch := omega) only [w_i64, w_u8, w_u16, w_u32, w_u64]); simp only [go_sem]) <;> (first | rfl | omega | trivial | (simp; done) | simp_all)
end

section
attribute [local go_sem] segs
set_option maxRecDepth 20000 in
set_option maxHeartbeats 8000000 in
theorem aspath_copied_ok (l : List Seg) (hl : tot l ≤ 1000000000) (hn : l.length ≤ 1000000) : ACX Go.Proofs.Tryd.prog G0 86 [.l (segs l)] [] [] (.l (segs l)) [] [] := by
 refine acalls_intro Go.Proofs.Tryd.func86 rfl (by kernel_rfl) Go.Proofs.Tryd.ntmps86 Go.Proofs.Tryd.results86 (by simp) rfl rfl ?_
 try simp only [go_sem]
 refine awp_seq_k fun K1 hK1 => ?_
 refine awp_regionL (by rfl) ?_
 try simp only [go_sem]
 refine hK1 _ _ _ (awp_keep [0] ?_)
 try clear hK1 K1
 try simp only [go_sem]
 refine awp_seq_k fun K2 hK2 => ?_
 refine awp_regionL (by rfl) ?_
 try simp only [go_sem]
 refine acall_pa (acx_read (gathered_seg_ok l hl hn)) ?_
 try simp only [go_sem]
 refine hK2 _ _ _ (awp_keep [2] ?_)
 try clear hK2 K2
 try simp only [go_sem]
 refine awp_ret ?_
 try simp only [go_sem]
 try clear hK2 K2
 try clear hK1 K1
 refine ret_p (by simp) (by rfl) ?_ (by rfl)
 (try simp (disch := omega) only [w_i64, w_u8, w_u16, w_u32, w_u64]); simp only [go_sem] <;> (first | rfl | omega | trivial | (simp; done) | simp_all)
end

section
attribute [local go_sem] segs Seg.cells u32s
set_option maxRecDepth 20000 in
set_option maxHeartbeats 8000000 in
theorem aspath_head_ok (l : List Seg) (n : Int) (hl : tot l ≤ 1000000) (hn : l.length ≤ 1000000) (hr : -1000000000 ≤ n ∧ n ≤ 1000000000) : ACX Go.Proofs.Tryd.prog G0 87 [.l (segs l), .l (.int .i64 n)] [] [] (.l (.slice (.row 0) 2 (sgl (headS l n)))) [] [(82, (headS l n).length)] := by
 refine acalls_intro Go.Proofs.Tryd.func87 rfl (by kernel_rfl) Go.Proofs.Tryd.ntmps87 Go.Proofs.Tryd.results87 (by simp) rfl rfl ?_
 try simp only [go_sem]
 refine awp_seq_k fun K1 hK1 => ?_
 refine awp_regionL (by rfl) ?_
 try simp only [go_sem]
 refine hK1 _ _ _ (awp_keep [0, 1] ?_)
 try clear hK1 K1
 try simp only [go_sem]
 refine awp_seq_k fun K2 hK2 => ?_
 refine awp_regionL (by rfl) ?_
 try simp only [go_sem]
 refine hK2 _ _ _ (awp_keep [0, 1, 5] ?_)
 try clear hK2 K2
 try simp only [go_sem]
 refine awp_seq_k fun K3 hK3 => ?_
 refine awp_seq_k fun K4 hK4 => ?_
 refine awp_regionL (by rfl) ?_
 try simp only [go_sem]
 refine acall_pa (aspath_copied_ok l (by omega) hn) ?_
 try simp only [go_sem]
 refine hK4 _ _ _ (awp_keep [1, 5, 9, 10, 11] ?_)
 try clear hK4 K4
 try simp only [go_sem]
 refine awp_block ?_
 refine awp_begin 5 82 2 rfl ?_
 simp only [go_sem]
 refine awp_loopE (α := (Nat) × (List Seg) × (Int)) (fun (z : (Nat) × (List Seg) × (Int)) => match z with | (k, out, m) => k ≤ l.length ∧ out ++ headS (l.drop k) m = headS l n ∧ out.length = k ∧ -1000000000 ≤ m ∧ m ≤ 1000000000) (fun (z : (Nat) × (List Seg) × (Int)) => match z with | (k, out, m) => l.length - k) (fun (z : (Nat) × (List Seg) × (Int)) => match z with | (k, out, m) => [(1, .l (.int .i64 m)), (5, .l (.slice (.row 0) 2 (sgl out))), (11, .l (.int .i64 (k : Int)))]) (fun (z : (Nat) × (List Seg) × (Int)) => match z with | (k, out, m) => []) (fun (z : (Nat) × (List Seg) × (Int)) => match z with | (k, out, m) => [(82, out.length)]) [9, 10] ⟨0, [], n⟩ [0] ?_ ?_ ?_
 ·
  simp only [Lss, go_sem]
  simp [sgl]
  all_goals first | rfl | omega | trivial
 ·
  exact ⟨Nat.zero_le _, rfl, rfl, hr.1, hr.2⟩
 rintro ⟨k, out, m⟩ ⟨hk, ho, hol, hm0, hm1⟩ K5 hK5
 try simp only [go_sem]
 refine awp_seq_k fun K6 hK6 => ?_
 refine awp_regionL (by rfl) ?_
 try simp only [go_sem]
 refine hK6 _ _ _ (awp_keep [1, 5, 9, 10, 11, 12] ?_)
 try clear hK6 K6
 try simp only [go_sem]
 refine awp_seq_k fun K7 hK7 => ?_
 refine awp_cond (by rfl) (fun hc0 => ?_) (fun hc0 => ?_)
 ·
  skip
  try simp only [decide_eq_true_eq, decide_eq_false_iff_not, Bool.not_eq_true', Bool.not_eq_false', Bool.and_eq_true, Bool.or_eq_true, Bool.or_eq_false_iff, Bool.and_eq_false_imp] at hc0
  have hk2 : k < l.length := by omega
  have hts := tot_take_succ l k hk2
  have htl := tot_take_le l (k + 1)
  have htn := tot_nonneg (l.take k)
  have hh1 := hd1_len l[k] m
  have hh2 := cnt_one (hd1 l[k] m)
  refine awp_skip ?_
  try simp only [go_sem]
  refine hK7 _ _ _ (awp_keep [1, 5, 9, 10, 11] ?_)
  try clear hK7 K7
  try simp only [go_sem]
  refine awp_seq_k fun K8 hK8 => ?_
  refine awp_block ?_
  refine awp_seq_k fun K9 hK9 => ?_
  refine awp_regionL (by rfl) ?_
  try simp only [go_sem]
  refine ix_map k rfl (by omega) ?_
  try simp only [go_sem]
  refine hK9 _ _ _ (awp_keep [1, 5, 7, 9, 10, 11] ?_)
  try clear hK9 K9
  try simp only [go_sem]
  refine awp_seq_k fun K10 hK10 => ?_
  refine awp_seq_k fun K11 hK11 => ?_
  refine awp_regionL (by rfl) ?_
  try simp only [go_sem]
  refine hK11 _ _ _ (awp_keep [1, 5, 7, 9, 10, 11, 16] ?_)
  try clear hK11 K11
  try simp only [go_sem]
  refine awp_cond (by rfl) (fun hc1 => ?_) (fun hc1 => ?_)
  ·
   skip
   try simp only [decide_eq_true_eq, decide_eq_false_iff_not, Bool.not_eq_true', Bool.not_eq_false', Bool.and_eq_true, Bool.or_eq_true, Bool.or_eq_false_iff, Bool.and_eq_false_imp] at hc1
   have hfin : out = headS l n := by rw [← ho, headS_end hc1]; simp
   refine awp_exit ?_
   try simp only [go_sem]
   refine hK3 _ _ _ (awp_keep [5] ?_)
   try simp only [go_sem]
   refine awp_seq_k fun K12 hK12 => ?_
   refine awp_regionL (by rfl) ?_
   try simp only [go_sem]
   refine hK12 _ _ _ (awp_keep [4] ?_)
   try clear hK12 K12
   try simp only [go_sem]
   refine awp_ret ?_
   try simp only [go_sem]
   try clear hK12 K12
   try clear hK11 K11
   try clear hK10 K10
   try clear hK9 K9
   try clear hK8 K8
   try clear hK7 K7
   try clear hK6 K6
   try clear hK5 K5
   try clear hK4 K4
   try clear hK3 K3
   try clear hK2 K2
   try clear hK1 K1
   refine ret_x [0] (by simp) (by rfl) ?_ (by rfl) ?_ (by rfl) (by simp) (by simp) (by rfl) ?_ <;> ((try simp (disch := omega) only [w_i64, w_u8, w_u16, w_u32, w_u64]); simp only [go_sem]) <;> (first | rfl | (rw [hfin]; done) | (simp [hfin]; done))
  ·
   skip
   try simp only [decide_eq_true_eq, decide_eq_false_iff_not, Bool.not_eq_true', Bool.not_eq_false', Bool.and_eq_true, Bool.or_eq_true, Bool.or_eq_false_iff, Bool.and_eq_false_imp] at hc1
   refine awp_skip ?_
   try simp only [go_sem]
   refine hK10 _ _ _ (awp_keep [1, 5, 7, 9, 10, 11] ?_)
   try clear hK10 K10
   try simp only [go_sem]
   refine awp_joinE (α := Unit) (fun (_u : Unit) => True) (fun (_u : Unit) => []) (fun (_u : Unit) => [⟨82, (hd1 l[k] m).cells⟩]) (fun (_u : Unit) => [(82, out.length)]) [1, 5, 7, 9, 10, 11] (fun K13 hK13 => ?_) ?_
   ·
    skip
    refine awp_seq_k fun K14 hK14 => ?_
    refine awp_regionL (by rfl) ?_
    try simp only [go_sem]
    repeat (refine Must.au ?_; try simp only [go_sem])
    refine hK14 _ _ _ (awp_keep [1, 5, 7, 9, 10, 11, 26] ?_)
    try clear hK14 K14
    try simp only [go_sem]
    refine awp_cond (by rfl) (fun hc2 => ?_) (fun hc2 => ?_)
    ·
     skip
     try simp only [decide_eq_true_eq, decide_eq_false_iff_not, Bool.not_eq_true', Bool.not_eq_false', Bool.and_eq_true, Bool.or_eq_true, Bool.or_eq_false_iff, Bool.and_eq_false_imp] at hc2
     refine awp_regionL (by rfl) ?_
     try simp only [go_sem]
     refine Must.intro (by omega) ?_
     try simp only [go_sem]
     have e1 : hd1 l[k] m = ⟨l[k].kind, l[k].nums.take m.toNat⟩ := by rw [hd1, if_pos hc2]
     refine hK13 _ _ _ ⟨(), [0], ?_, ?_⟩
     ·
      (try simp (disch := omega) only [w_i64, w_u8, w_u16, w_u32, w_u64]); simp only [Lss, go_sem, e1]
      (repeat' apply And.intro) <;> first | rfl | (simp only [ul, List.map_take]; done) | trivial
      all_goals first | rfl | omega | trivial
     ·
      first | omega | (constructor <;> omega) | trivial
    ·
     skip
     try simp only [decide_eq_true_eq, decide_eq_false_iff_not, Bool.not_eq_true', Bool.not_eq_false', Bool.and_eq_true, Bool.or_eq_true, Bool.or_eq_false_iff, Bool.and_eq_false_imp] at hc2
     refine awp_skip ?_
     try simp only [go_sem]
     have e1 : hd1 l[k] m = l[k] := by rw [hd1, if_neg (fun h => hc2 h.1 h.2)]
     refine hK13 _ _ _ ⟨(), [0], ?_, ?_⟩
     ·
      (try simp (disch := omega) only [w_i64, w_u8, w_u16, w_u32, w_u64]); simp only [Lss, go_sem, e1]
      (repeat' apply And.intro) <;> first | rfl | omega | trivial | (simp; done)
     ·
      first | omega | (constructor <;> omega) | trivial
   ·
    rintro _u hj
    try simp only [go_sem]
    refine awp_seq_k fun K15 hK15 => ?_
    refine awp_regionL (by rfl) ?_
    try simp only [go_sem]
    refine acall_pa (aspath_Count_ok [hd1 l[k] m] (by omega)) ?_
    try simp only [go_sem]
    try simp (disch := omega) only [w_i64, w_u8, w_u16, w_u32, w_u64]
    refine hK15 _ _ _ (awp_keep [1, 5, 7, 9, 10, 11] ?_)
    try clear hK15 K15
    try simp only [go_sem]
    refine awp_regionL (by rfl) ?_
    try simp only [go_sem]
    refine app_row rfl rfl rfl (by first | rfl | (simp only [go_sem, List.length_append, List.length_map, bl_length]; done) | (simp; done) | (simp; omega)) rfl (.inl rfl) (by decide) tby82 (by (try simp only [go_sem, List.length_append, List.length_map, bl_length]); first | omega | (simp; done) | (simp; omega)) (by (try simp only [go_sem, List.length_append, List.length_map, bl_length]); first | omega | (simp; done) | (simp; omega)) ?_
    try simp only [go_sem]
    refine hK8 _ _ _ (awp_keep [1, 5, 9, 10, 11] ?_)
    try clear hK8 K8
    try simp only [go_sem]
    refine awp_regionL (by rfl) ?_
    try simp only [go_sem]
    try simp (disch := omega) only [w_i64, w_u8, w_u16, w_u32, w_u64]
    have hlen9 : (out ++ [hd1 l[k] m]).length = k + 1 := by simp; omega
    refine hK5 _ _ _ ⟨⟨k + 1, out ++ [hd1 l[k] m], m - cnt [hd1 l[k] m]⟩, [0], ?_, ?_⟩
    ·
     (try simp (disch := omega) only [w_i64, w_u8, w_u16, w_u32, w_u64]); simp only [Lss, go_sem, List.length_append, List.length_cons, List.length_nil]
     (repeat' apply And.intro) <;> first | exact sgl_snoc out (hd1 l[k] m) | rfl | omega
     all_goals first | rfl | omega | trivial
    ·
     exact ⟨⟨hk2, by rw [← ho, headS_drop hk2 hc1, List.append_assoc]; rfl, hlen9, by omega, by omega⟩, by show l.length - (k + 1) < l.length - k; omega⟩
 ·
  skip
  try simp only [decide_eq_true_eq, decide_eq_false_iff_not, Bool.not_eq_true', Bool.not_eq_false', Bool.and_eq_true, Bool.or_eq_true, Bool.or_eq_false_iff, Bool.and_eq_false_imp] at hc0
  have hfin : out = headS l n := by rw [← ho, List.drop_of_length_le (by omega)]; simp [headS]
  refine awp_exit ?_
  try simp only [go_sem]
  refine hK3 _ _ _ (awp_keep [5] ?_)
  try simp only [go_sem]
  refine awp_seq_k fun K16 hK16 => ?_
  refine awp_regionL (by rfl) ?_
  try simp only [go_sem]
  refine hK16 _ _ _ (awp_keep [4] ?_)
  try clear hK16 K16
  try simp only [go_sem]
  refine awp_ret ?_
  try simp only [go_sem]
  try clear hK16 K16
  try clear hK15 K15
  try clear hK14 K14
  try clear hK13 K13
  try clear hK12 K12
  try clear hK11 K11
  try clear hK10 K10
  try clear hK9 K9
  try clear hK8 K8
  try clear hK7 K7
  try clear hK6 K6
  try clear hK5 K5
  try clear hK4 K4
  try clear hK3 K3
  try clear hK2 K2
  try clear hK1 K1
  refine ret_x [0] (by simp) (by rfl) ?_ (by rfl) ?_ (by rfl) (by simp) (by simp) (by rfl) ?_ <;> ((try simp (disch := omega) only [w_i64, w_u8, w_u16, w_u32, w_u64]); simp only [go_sem]) <;> (first | rfl | (rw [hfin]; done) | (simp [hfin]; done))
end

def Short (l : List Seg) : Prop := tot l ≤ 1000 ∧ cnt l ≤ 1000 ∧ l.length ≤ 1000
theorem short_of_right {l : List Seg} (h : pathRight l = true) : Short l := by
  simp only [pathRight, Bool.and_eq_true, decide_eq_true_eq] at h
  refine ⟨by omega, ?_, by omega⟩
  have key : ∀ l : List Seg, cnt l ≤ tot l + l.length := by
    intro l
    induction l with
    | nil => simp [cnt, tot]
    | cons s l ih => simp only [cnt, tot, List.length_cons]; split <;> omega
  have := key l
  omega

theorem sgl_app (a b : List Seg) : sgl (a ++ b) = sgl a ++ sgl b := by simp [sgl]

section
attribute [local go_sem] segs Seg.cells u32s sgl_app
set_option maxRecDepth 20000 in
set_option maxHeartbeats 8000000 in
theorem aspath_Merge_ok (l more : List Seg) (hl : Short l) (hm : Short more) : ACX Go.Proofs.Tryd.prog G0 78 [.l (segs l), .l (segs more)] [] [] (.l (segs (mergeS l more))) [] [] := by
 refine acalls_intro Go.Proofs.Tryd.func78 rfl (by kernel_rfl) Go.Proofs.Tryd.ntmps78 Go.Proofs.Tryd.results78 (by simp) rfl rfl ?_
 try simp only [go_sem, hw]
 obtain ⟨l1, l2, l3⟩ := hl
 obtain ⟨m1, m2, m3⟩ := hm
 have n1 := cnt_nonneg l
 have n2 := cnt_nonneg more
 have hw : IntKind.i64.wrap (cnt l - cnt more) = cnt l - cnt more := w_i64 (by omega) (by omega)
 have n3 := headS_len l (cnt l - cnt more)
 refine awp_seq_k fun K1 hK1 => ?_
 refine awp_regionL (by rfl) ?_
 try simp only [go_sem, hw]
 refine hK1 _ _ _ (awp_keep [0, 1] ?_)
 try clear hK1 K1
 try simp only [go_sem, hw]
 refine awp_seq_k fun K2 hK2 => ?_
 refine awp_seq_k fun K3 hK3 => ?_
 refine awp_regionL (by rfl) ?_
 try simp only [go_sem, hw]
 refine gcall_p ?_ (by rfl) (by simp only [go_sem, hw]; rfl) (fun hg => ⟨aspath_Right_ok l, by simp only [hg, go_sem, hw]⟩) ?_
 ·
  rfl
 try simp only [go_sem, hw]
 repeat (refine Must.au ?_; try simp only [go_sem])
 refine gcall_p ?_ (by rfl) (by simp only [go_sem, hw]; rfl) (fun hg => ⟨aspath_Right_ok more, by simp only [hg, go_sem, hw]⟩) ?_
 ·
  rfl
 try simp only [go_sem, hw]
 repeat (refine Must.au ?_; try simp only [go_sem])
 refine gcall_p ?_ (by rfl) (by simp only [go_sem, hw]; rfl) (fun hg => ⟨aspath_Count_ok more (by omega), by simp only [hg, go_sem, hw]⟩) ?_
 ·
  rfl
 try simp only [go_sem, hw]
 repeat (refine Must.au ?_; try simp only [go_sem])
 refine gcall_p ?_ (by rfl) (by simp only [go_sem, hw]; rfl) (fun hg => ⟨aspath_Count_ok l (by omega), by simp only [hg, go_sem, hw]⟩) ?_
 ·
  rfl
 try simp only [go_sem, hw]
 repeat (refine Must.au ?_; try simp only [go_sem])
 repeat (refine Must.au ?_; try simp only [go_sem])
 refine hK3 _ _ _ (awp_keep [0, 1, 25] ?_)
 try clear hK3 K3
 try simp only [go_sem, hw]
 refine awp_cond (by rfl) (fun hc0 => ?_) (fun hc0 => ?_)
 ·
  skip
  try simp only [decide_eq_true_eq, decide_eq_false_iff_not, Bool.not_eq_true', Bool.not_eq_false', Bool.and_eq_true, Bool.or_eq_true, Bool.or_eq_false_iff, Bool.and_eq_false_imp] at hc0
  have hme : mergeS l more = l := by
   unfold mergeS
   rw [if_pos]
   rcases hc0 with ((h | h) | h) | h
   ·
    exact .inl (by simpa using h)
   ·
    exact .inr (.inl h)
   ·
    exact .inr (.inr (.inl h))
   ·
    exact .inr (.inr (.inr h))
  refine awp_seq_k fun K4 hK4 => ?_
  refine awp_regionL (by rfl) ?_
  try simp only [go_sem, hw]
  refine acall_p (aspath_copied_ok l (by omega) (by omega)) (by first | exact ⟨rfl, trivial⟩ | exact ⟨rfl, rfl, trivial⟩ | exact ⟨rfl, rfl, rfl, trivial⟩ | (simp only [go_sem, hw]; done) | (simp only [go_sem, hw] <;> (repeat' apply And.intro) <;> first | rfl | omega | trivial)) ?_
  try simp only [go_sem, hw]
  refine hK4 _ _ _ (awp_keep [4] ?_)
  try clear hK4 K4
  try simp only [go_sem, hw]
  refine awp_ret ?_
  try simp only [go_sem, hw]
  try clear hK4 K4
  try clear hK3 K3
  try clear hK2 K2
  try clear hK1 K1
  refine ret_p (by simp) (by rfl) ?_ (by rfl)
  (try simp (disch := omega) only [w_i64, w_u8, w_u16, w_u32, w_u64]); simp only [go_sem, hw] <;> ((rw [hme]; try simp only [sgl_app]))
 ·
  skip
  try simp only [decide_eq_true_eq, decide_eq_false_iff_not, Bool.not_eq_true', Bool.not_eq_false', Bool.and_eq_true, Bool.or_eq_true, Bool.or_eq_false_iff, Bool.and_eq_false_imp] at hc0
  have hno : ¬ (more = [] ∨ pathRight l = false ∨ pathRight more = false ∨ cnt l < cnt more) := by
   obtain ⟨⟨⟨h1, h2⟩, h3⟩, h4⟩ := hc0
   rintro (h | h | h | h)
   ·
    exact h1 (by simp [h])
   ·
    rw [h2] at h; cases h
   ·
    rw [h3] at h; cases h
   ·
    exact h4 h
  refine awp_skip ?_
  try simp only [go_sem, hw]
  refine hK2 _ _ _ (awp_keep [0, 1] ?_)
  try clear hK2 K2
  try simp only [go_sem, hw]
  refine awp_seq_k fun K5 hK5 => ?_
  refine awp_regionL (by rfl) ?_
  try simp only [go_sem, hw]
  refine acall_p (aspath_Count_ok l (by omega)) (by first | exact ⟨rfl, trivial⟩ | exact ⟨rfl, rfl, trivial⟩ | exact ⟨rfl, rfl, rfl, trivial⟩ | (simp only [go_sem, hw]; done) | (simp only [go_sem, hw] <;> (repeat' apply And.intro) <;> first | rfl | omega | trivial)) ?_
  try simp only [go_sem, hw]
  refine acall_p (aspath_Count_ok more (by omega)) (by first | exact ⟨rfl, trivial⟩ | exact ⟨rfl, rfl, trivial⟩ | exact ⟨rfl, rfl, rfl, trivial⟩ | (simp only [go_sem, hw]; done) | (simp only [go_sem, hw] <;> (repeat' apply And.intro) <;> first | rfl | omega | trivial)) ?_
  try simp only [go_sem, hw]
  refine acall_x (aspath_head_ok l (cnt l - cnt more) (by omega) (by omega) (by omega)) [] [] (by decide) (by decide) (by simp) (by first | (simp only [go_sem, hw]; done) | (simp only [go_sem, hw] <;> (repeat' apply And.intro) <;> first | rfl | omega | trivial)) (by first | (simp only [go_sem, hw]; done) | (simp only [go_sem, hw] <;> (repeat' apply And.intro) <;> first | rfl | omega | trivial)) (by first | (simp only [go_sem, hw]; done) | (simp only [go_sem, hw] <;> (repeat' apply And.intro) <;> first | rfl | omega | trivial)) ?_
  try simp only [go_sem, hw]
  refine acall_p (aspath_copied_ok more (by omega) (by omega)) (by first | exact ⟨rfl, trivial⟩ | exact ⟨rfl, rfl, trivial⟩ | exact ⟨rfl, rfl, rfl, trivial⟩ | (simp only [go_sem, hw]; done) | (simp only [go_sem, hw] <;> (repeat' apply And.intro) <;> first | rfl | omega | trivial)) ?_
  try simp only [go_sem, hw]
  try simp (disch := omega) only [w_i64, w_u8, w_u16, w_u32, w_u64]
  refine app_row rfl rfl rfl (by first | rfl | (simp only [go_sem, List.length_append, List.length_map, bl_length, hw]; done) | (simp; done) | (simp; omega)) rfl (.inl rfl) (by decide) tby82 (by (try simp only [go_sem, List.length_append, List.length_map, bl_length, hw]); first | omega | (simp; done) | (simp; omega)) (by (try simp only [go_sem, List.length_append, List.length_map, bl_length, hw]); first | omega | (simp; done) | (simp; omega)) ?_
  try simp only [go_sem, hw]
  try simp (disch := omega) only [w_i64, w_u8, w_u16, w_u32, w_u64]
  refine hK5 _ _ _ (awp_keep [0, 5] ?_)
  try clear hK5 K5
  try simp only [go_sem, hw]
  refine awp_seq_k fun K6 hK6 => ?_
  refine awp_seq_k fun K7 hK7 => ?_
  refine awp_regionL (by rfl) ?_
  try simp only [go_sem, hw]
  refine acall_p (aspath_Right_ok (headS l (cnt l - cnt more) ++ more)) (by first | exact ⟨rfl, trivial⟩ | exact ⟨rfl, rfl, trivial⟩ | exact ⟨rfl, rfl, rfl, trivial⟩ | (simp only [go_sem, hw]; done) | (simp only [go_sem, hw] <;> (repeat' apply And.intro) <;> first | rfl | omega | trivial)) ?_
  try simp only [go_sem, hw]
  refine hK7 _ _ _ (awp_keep [0, 5, 40] ?_)
  try clear hK7 K7
  try simp only [go_sem, hw]
  refine awp_cond (by rfl) (fun hc1 => ?_) (fun hc1 => ?_)
  ·
   skip
   try simp only [decide_eq_true_eq, decide_eq_false_iff_not, Bool.not_eq_true', Bool.not_eq_false', Bool.and_eq_true, Bool.or_eq_true, Bool.or_eq_false_iff, Bool.and_eq_false_imp] at hc1
   have hme : mergeS l more = l := by
    unfold mergeS
    rw [if_neg hno, if_neg (by rw [hc1]; exact Bool.false_ne_true)]
   refine awp_seq_k fun K8 hK8 => ?_
   refine awp_regionL (by rfl) ?_
   try simp only [go_sem, hw]
   refine acall_p (aspath_copied_ok l (by omega) (by omega)) (by first | exact ⟨rfl, trivial⟩ | exact ⟨rfl, rfl, trivial⟩ | exact ⟨rfl, rfl, rfl, trivial⟩ | (simp only [go_sem, hw]; done) | (simp only [go_sem, hw] <;> (repeat' apply And.intro) <;> first | rfl | omega | trivial)) ?_
   try simp only [go_sem, hw]
   refine hK8 _ _ _ (awp_keep [4] ?_)
   try clear hK8 K8
   try simp only [go_sem, hw]
   refine awp_ret ?_
   try simp only [go_sem, hw]
   try clear hK8 K8
   try clear hK7 K7
   try clear hK6 K6
   try clear hK5 K5
   try clear hK4 K4
   try clear hK3 K3
   try clear hK2 K2
   try clear hK1 K1
   refine ret_p (by simp) (by rfl) ?_ (by rfl)
   (try simp (disch := omega) only [w_i64, w_u8, w_u16, w_u32, w_u64]); simp only [go_sem, hw] <;> ((rw [hme]; try simp only [sgl_app]))
  ·
   skip
   try simp only [decide_eq_true_eq, decide_eq_false_iff_not, Bool.not_eq_true', Bool.not_eq_false', Bool.and_eq_true, Bool.or_eq_true, Bool.or_eq_false_iff, Bool.and_eq_false_imp] at hc1
   have hme : mergeS l more = headS l (cnt l - cnt more) ++ more := by
    unfold mergeS
    rw [if_neg hno, if_pos hc1]
   refine awp_skip ?_
   try simp only [go_sem, hw]
   refine hK6 _ _ _ (awp_keep [5] ?_)
   try clear hK6 K6
   try simp only [go_sem, hw]
   refine awp_seq_k fun K9 hK9 => ?_
   refine awp_regionL (by rfl) ?_
   try simp only [go_sem, hw]
   refine hK9 _ _ _ (awp_keep [4] ?_)
   try clear hK9 K9
   try simp only [go_sem, hw]
   refine awp_ret ?_
   try simp only [go_sem, hw]
   try clear hK9 K9
   try clear hK8 K8
   try clear hK7 K7
   try clear hK6 K6
   try clear hK5 K5
   try clear hK4 K4
   try clear hK3 K3
   try clear hK2 K2
   try clear hK1 K1
   refine ret_p (by simp) (by rfl) ?_ (by rfl)
   (try simp (disch := omega) only [w_i64, w_u8, w_u16, w_u32, w_u64]); simp only [go_sem, hw] <;> ((rw [hme]; try simp only [sgl_app]))
end

end Go.Abs
