/-
  PATHS AND LISTS: lists of numbers, segments and paths, whether two are the same, how long they count.
-/
import Derived.Test.YtajeoodipplmlaaDoorT2
set_option linter.all false
namespace Go.Abs
open Go Go.Proofs
theorem take_eq_succ {α : Type} {a b : List α} {k : Nat} (h : a.take k = b.take k) (ha : k < a.length) (hb : k < b.length) (he : a[k] = b[k]) : a.take (k + 1) = b.take (k + 1) := by
  rw [List.take_succ_eq_append_getElem ha, List.take_succ_eq_append_getElem hb, h, he]
theorem ne_of_get {α : Type} {a b : List α} {k : Nat} (ha : k < a.length) (hb : k < b.length) (he : a[k] ≠ b[k]) : a ≠ b := fun h => he (by subst h; rfl)
theorem ne_of_len {α : Type} {a b : List α} (h : ¬ (a.length : Int) = b.length) : a ≠ b := fun h' => h (by rw [h'])
theorem eq_of_take {α : Type} {a b : List α} {k : Nat} (h : a.take k = b.take k) (ha : k = a.length) (hb : k = b.length) : a = b := by
  rw [ha, List.take_length] at h
  rw [h, ← ha, hb, List.take_length]
structure Seg where
  kind : Int
  nums : List Int
  deriving DecidableEq
def ul (l : List Int) : List (List LV) := l.map fun n => [.int .u32 n]
@[go_sem] theorem ul_length (l : List Int) : (ul l).length = l.length := by simp [ul]
theorem ul_append (a b : List Int) : ul (a ++ b) = ul a ++ ul b := by simp [ul]
theorem ul_snoc (a : List Int) (x : Int) : ul a ++ [[.int .u32 x]] = ul (a ++ [x]) := by simp [ul]
def u32s (l : List Int) : LV := .slice .shared 1 (ul l)
def Seg.cells (s : Seg) : List LV := [.int .i64 s.kind, u32s s.nums]
def sgl (l : List Seg) : List (List LV) := l.map Seg.cells
@[go_sem] theorem sgl_length (l : List Seg) : (sgl l).length = l.length := by simp [sgl]
def segs (l : List Seg) : LV := .slice .shared 2 (sgl l)
def cnt : List Seg → Int
  | [] => 0
  | s :: l => (if s.kind = 1 then 1 else (s.nums.length : Int)) + cnt l
theorem cnt_take_succ (l : List Seg) (k : Nat) (h : k < l.length) : cnt (l.take (k + 1)) = cnt (l.take k) + (if l[k].kind = 1 then 1 else (l[k].nums.length : Int)) := by
  induction l generalizing k with
  | nil => simp at h
  | cons s l ih =>
    cases k with
    | zero => simp [cnt]
    | succ k =>
      simp only [List.take_succ_cons, cnt, List.getElem_cons_succ]
      rw [ih k (by simpa using h)]; omega
theorem cnt_nonneg : ∀ (l : List Seg), 0 ≤ cnt l
  | [] => by simp [cnt]
  | s :: l => by simp only [cnt]; have := cnt_nonneg l; split <;> omega
theorem cnt_take_le (l : List Seg) (k : Nat) : cnt (l.take k) ≤ cnt l := by
  induction l generalizing k with
  | nil => simp
  | cons s l ih =>
    cases k with
    | zero => simp only [List.take_zero]; exact cnt_nonneg _
    | succ k => simp only [List.take_succ_cons, cnt]; have := ih k; omega
/-- How many numbers a path has. -/
def tot : List Seg → Int
  | [] => 0
  | s :: l => (s.nums.length : Int) + tot l
theorem tot_take_succ (l : List Seg) (k : Nat) (h : k < l.length) : tot (l.take (k + 1)) = tot (l.take k) + l[k].nums.length := by
  induction l generalizing k with
  | nil => simp at h
  | cons s l ih =>
    cases k with
    | zero => simp [tot]
    | succ k =>
      simp only [List.take_succ_cons, tot, List.getElem_cons_succ]
      rw [ih k (by simpa using h)]; omega
theorem tot_nonneg : ∀ (l : List Seg), 0 ≤ tot l
  | [] => by simp [tot]
  | s :: l => by simp only [tot]; have := tot_nonneg l; omega
theorem tot_take_le (l : List Seg) (k : Nat) : tot (l.take k) ≤ tot l := by
  induction l generalizing k with
  | nil => simp
  | cons s l ih =>
    cases k with
    | zero => simp only [List.take_zero]; exact tot_nonneg _
    | succ k => simp only [List.take_succ_cons, tot]; have := ih k; omega
def segOk (s : Seg) : Bool := (s.kind == 1 || s.kind == 2) && !(s.nums.length == 0) && decide (s.nums.length ≤ 64)
theorem segOk_iff (s : Seg) : segOk s = true ↔ ((s.kind = 1 ∨ s.kind = 2) ∧ ¬ s.nums.length = 0) ∧ s.nums.length ≤ 64 := by
  simp only [segOk, Bool.and_eq_true, Bool.or_eq_true, beq_iff_eq, Bool.not_eq_true', beq_eq_false_iff_ne, ne_eq, decide_eq_true_eq]
theorem segOk_no {s : Seg} (h : ¬ (((s.kind = 1 ∨ s.kind = 2) ∧ ¬ s.nums.length = 0) ∧ s.nums.length ≤ 64)) : segOk s = false := by
  rw [← segOk_iff] at h; simpa using h
def pathRight (l : List Seg) : Bool := l.all segOk && decide (tot l ≤ 64) && decide (l.length ≤ 8)
theorem all_take_succ {α : Type} {p : α → Bool} {l : List α} {k : Nat} (h : (l.take k).all p = true) (hk : k < l.length) (hp : p l[k] = true) : (l.take (k + 1)).all p = true := by
  rw [List.take_succ_eq_append_getElem hk, List.all_append, h]; simp [hp]
theorem all_false {α : Type} {p : α → Bool} {l : List α} {k : Nat} (hk : k < l.length) (hp : p l[k] = false) : l.all p = false := by
  rw [List.all_eq_false]; exact ⟨l[k], List.getElem_mem hk, by simp [hp]⟩
def flat (l : List Seg) : List Int := l.flatMap Seg.nums
theorem flat_take_succ (l : List Seg) (k : Nat) (h : k < l.length) : flat (l.take (k + 1)) = flat (l.take k) ++ l[k].nums := by
  rw [List.take_succ_eq_append_getElem h, flat, List.flatMap_append]; simp [flat]
theorem flat_len (l : List Seg) : ((flat l).length : Int) = tot l := by
  induction l with
  | nil => rfl
  | cons s l ih =>
    have h : flat (s :: l) = s.nums ++ flat l := rfl
    rw [h, List.length_append, tot]; omega

section
attribute [local go_sem] segs u32s Seg.cells
set_option maxRecDepth 20000 in
set_option maxHeartbeats 8000000 in
theorem aspath_Count_ok (l : List Seg) (hl : cnt l ≤ 1000000000) : ACX Go.Proofs.Tryd.prog G0 85 [.l (segs l)] [] [] (.l (.int .i64 (cnt l))) [] [] := by
 refine acalls_intro Go.Proofs.Tryd.func85 rfl (by kernel_rfl) Go.Proofs.Tryd.ntmps85 Go.Proofs.Tryd.results85 (by simp) rfl rfl ?_
 try simp only [go_sem]
 refine awp_len 0 rfl fun hlen => ?_
 simp only [sgl_length] at hlen
 refine awp_seq_k fun K1 hK1 => ?_
 refine awp_regionL (by rfl) ?_
 try simp only [go_sem]
 refine hK1 _ _ _ (awp_keep [0] ?_)
 try clear hK1 K1
 try simp only [go_sem]
 refine awp_seq_k fun K2 hK2 => ?_
 refine awp_regionL (by rfl) ?_
 try simp only [go_sem]
 refine hK2 _ _ _ (awp_keep [0, 3] ?_)
 try clear hK2 K2
 try simp only [go_sem]
 refine awp_seq_k fun K3 hK3 => ?_
 refine awp_seq_k fun K4 hK4 => ?_
 refine awp_regionL (by rfl) ?_
 try simp only [go_sem]
 refine hK4 _ _ _ (awp_keep [3, 6, 7, 8] ?_)
 try clear hK4 K4
 try simp only [go_sem]
 refine awp_block ?_
 refine awp_loopE (α := (Nat)) (fun (k : (Nat)) => k ≤ l.length) (fun (k : (Nat)) => l.length - k) (fun (k : (Nat)) => [(3, .l (.int .i64 (cnt (l.take k)))), (8, .l (.int .i64 (k : Int)))]) (fun (k : (Nat)) => []) (fun (k : (Nat)) => []) [6, 7] 0 [] ?_ ?_ ?_
 ·
  simp only [Lss, go_sem]
  (repeat' apply And.intro) <;> first | rfl | omega | trivial | (simp; done)
 ·
  first | trivial | omega | (simp; done) | (constructor <;> omega)
 rintro k hk K5 hK5
 try simp only [go_sem]
 have hn := cnt_nonneg (l.take k); have hle := cnt_take_le l (k + 1); have hn2 := cnt_nonneg (l.take (k+1))
 refine awp_seq_k fun K6 hK6 => ?_
 refine awp_regionL (by rfl) ?_
 try simp only [go_sem]
 refine hK6 _ _ _ (awp_keep [3, 6, 7, 8, 9] ?_)
 try clear hK6 K6
 try simp only [go_sem]
 refine awp_seq_k fun K7 hK7 => ?_
 refine awp_cond (by rfl) (fun hc0 => ?_) (fun hc0 => ?_)
 ·
  skip
  try simp only [decide_eq_true_eq, decide_eq_false_iff_not, Bool.not_eq_true', Bool.not_eq_false', Bool.and_eq_true, Bool.or_eq_true, Bool.or_eq_false_iff, Bool.and_eq_false_imp] at hc0
  refine awp_skip ?_
  try simp only [go_sem]
  refine hK7 _ _ _ (awp_keep [3, 6, 7, 8] ?_)
  try clear hK7 K7
  try simp only [go_sem]
  refine awp_seq_k fun K8 hK8 => ?_
  refine awp_block ?_
  refine awp_seq_k fun K9 hK9 => ?_
  refine awp_regionL (by rfl) ?_
  try simp only [go_sem]
  refine ix_map k rfl (by omega) ?_
  try simp only [go_sem]
  refine hK9 _ _ _ (awp_keep [3, 5, 6, 7, 8] ?_)
  try clear hK9 K9
  try simp only [go_sem]
  refine awp_seq_k fun K10 hK10 => ?_
  refine awp_regionL (by rfl) ?_
  try simp only [go_sem]
  refine hK10 _ _ _ (awp_keep [3, 5, 6, 7, 8, 14] ?_)
  try clear hK10 K10
  try simp only [go_sem]
  refine awp_cond (by rfl) (fun hc1 => ?_) (fun hc1 => ?_)
  ·
   skip
   try simp only [decide_eq_true_eq, decide_eq_false_iff_not, Bool.not_eq_true', Bool.not_eq_false', Bool.and_eq_true, Bool.or_eq_true, Bool.or_eq_false_iff, Bool.and_eq_false_imp] at hc1
   refine awp_regionL (by rfl) ?_
   try simp only [go_sem]
   try simp (disch := omega) only [w_i64, w_u8, w_u16, w_u32, w_u64]
   refine hK8 _ _ _ (awp_keep [3, 6, 7, 8] ?_)
   try simp only [go_sem]
   refine awp_regionL (by rfl) ?_
   try simp only [go_sem]
   try simp (disch := omega) only [w_i64, w_u8, w_u16, w_u32, w_u64]
   have hs := cnt_take_succ l k (by omega)
   simp only [hc1, reduceIte] at hs
   refine hK5 _ _ _ ⟨k + 1, [], ?_, ?_⟩
   ·
    (try simp (disch := omega) only [w_i64, w_u8, w_u16, w_u32, w_u64]); simp only [Lss, go_sem]
    (repeat' apply And.intro) <;> first | rfl | omega | trivial | (simp; done)
   ·
    exact ⟨by omega, by omega⟩
  ·
   skip
   try simp only [decide_eq_true_eq, decide_eq_false_iff_not, Bool.not_eq_true', Bool.not_eq_false', Bool.and_eq_true, Bool.or_eq_true, Bool.or_eq_false_iff, Bool.and_eq_false_imp] at hc1
   refine awp_regionL (by rfl) ?_
   try simp only [go_sem]
   try simp (disch := omega) only [w_i64, w_u8, w_u16, w_u32, w_u64]
   refine hK8 _ _ _ (awp_keep [3, 6, 7, 8] ?_)
   try simp only [go_sem]
   refine awp_regionL (by rfl) ?_
   try simp only [go_sem]
   try simp (disch := omega) only [w_i64, w_u8, w_u16, w_u32, w_u64]
   have hs := cnt_take_succ l k (by omega)
   simp only [hc1, reduceIte] at hs
   refine hK5 _ _ _ ⟨k + 1, [], ?_, ?_⟩
   ·
    (try simp (disch := omega) only [w_i64, w_u8, w_u16, w_u32, w_u64]); simp only [Lss, go_sem]
    (repeat' apply And.intro) <;> first | rfl | omega | trivial | (simp; done)
   ·
    exact ⟨by omega, by omega⟩
 ·
  skip
  try simp only [decide_eq_true_eq, decide_eq_false_iff_not, Bool.not_eq_true', Bool.not_eq_false', Bool.and_eq_true, Bool.or_eq_true, Bool.or_eq_false_iff, Bool.and_eq_false_imp] at hc0
  obtain rfl : k = l.length := by omega
  simp only [List.take_length]
  refine awp_exit ?_
  try simp only [go_sem]
  refine hK3 _ _ _ (awp_keep [3] ?_)
  try clear hK3 K3
  try simp only [go_sem]
  refine awp_seq_k fun K11 hK11 => ?_
  refine awp_regionL (by rfl) ?_
  try simp only [go_sem]
  refine hK11 _ _ _ (awp_keep [2] ?_)
  try clear hK11 K11
  try simp only [go_sem]
  refine awp_ret ?_
  try simp only [go_sem]
  try clear hK11 K11
  try clear hK10 K10
  try clear hK9 K9
  try clear hK8 K8
  try clear hK7 K7
  try clear hK6 K6
  try clear hK5 K5
  try clear hK4 K4
  try clear hK3 K3
  try clear hK2 K2
  try clear hK1 K1
  refine ret_p (by simp) (by rfl) ?_ (by rfl)
  (try simp (disch := omega) only [w_i64, w_u8, w_u16, w_u32, w_u64]); simp only [go_sem] <;> (first | rfl | omega | trivial | (simp; done) | simp_all)
end

section
attribute [local go_sem] segs u32s Seg.cells
set_option maxRecDepth 20000 in
set_option maxHeartbeats 8000000 in
theorem ref03_Count_ok (l : List Seg) (hl : cnt l ≤ 1000000000) : ACX Go.Proofs.Tryd.prog G0 24 [.l (segs l)] [] [] (.l (.int .i64 (cnt l))) [] [] := by
 refine acalls_intro Go.Proofs.Tryd.func24 rfl (by kernel_rfl) Go.Proofs.Tryd.ntmps24 Go.Proofs.Tryd.results24 (by simp) rfl rfl ?_
 try simp only [go_sem]
 refine awp_len 0 rfl fun hlen => ?_
 simp only [sgl_length] at hlen
 refine awp_seq_k fun K1 hK1 => ?_
 refine awp_regionL (by rfl) ?_
 try simp only [go_sem]
 refine hK1 _ _ _ (awp_keep [0] ?_)
 try clear hK1 K1
 try simp only [go_sem]
 refine awp_seq_k fun K2 hK2 => ?_
 refine awp_regionL (by rfl) ?_
 try simp only [go_sem]
 refine hK2 _ _ _ (awp_keep [0, 3] ?_)
 try clear hK2 K2
 try simp only [go_sem]
 refine awp_seq_k fun K3 hK3 => ?_
 refine awp_seq_k fun K4 hK4 => ?_
 refine awp_regionL (by rfl) ?_
 try simp only [go_sem]
 refine hK4 _ _ _ (awp_keep [0, 3, 4] ?_)
 try clear hK4 K4
 try simp only [go_sem]
 refine awp_block ?_
 refine awp_loopE (α := (Nat)) (fun (k : (Nat)) => k ≤ l.length) (fun (k : (Nat)) => l.length - k) (fun (k : (Nat)) => [(3, .l (.int .i64 (cnt (l.take k)))), (4, .l (.int .i64 (k : Int)))]) (fun (k : (Nat)) => []) (fun (k : (Nat)) => []) [0] 0 [] ?_ ?_ ?_
 ·
  simp only [Lss, go_sem]
  (repeat' apply And.intro) <;> first | rfl | omega | trivial | (simp; done)
 ·
  first | trivial | omega | (simp; done) | (constructor <;> omega)
 rintro k hk K5 hK5
 try simp only [go_sem]
 have hn := cnt_nonneg (l.take k); have hle := cnt_take_le l (k + 1); have hn2 := cnt_nonneg (l.take (k+1))
 refine awp_seq_k fun K6 hK6 => ?_
 refine awp_seq_k fun K7 hK7 => ?_
 refine awp_regionL (by rfl) ?_
 try simp only [go_sem]
 refine hK7 _ _ _ (awp_keep [0, 3, 4, 8] ?_)
 try clear hK7 K7
 try simp only [go_sem]
 refine awp_cond (by rfl) (fun hc0 => ?_) (fun hc0 => ?_)
 ·
  skip
  try simp only [decide_eq_true_eq, decide_eq_false_iff_not, Bool.not_eq_true', Bool.not_eq_false', Bool.and_eq_true, Bool.or_eq_true, Bool.or_eq_false_iff, Bool.and_eq_false_imp] at hc0
  refine awp_skip ?_
  try simp only [go_sem]
  refine hK6 _ _ _ (awp_keep [0, 3, 4] ?_)
  try clear hK6 K6
  try simp only [go_sem]
  refine awp_seq_k fun K8 hK8 => ?_
  refine awp_block ?_
  refine awp_seq_k fun K9 hK9 => ?_
  refine awp_regionL (by rfl) ?_
  try simp only [go_sem]
  refine ix_map k rfl (by omega) ?_
  try simp only [go_sem]
  refine hK9 _ _ _ (awp_keep [0, 3, 4, 16] ?_)
  try clear hK9 K9
  try simp only [go_sem]
  refine awp_cond (by rfl) (fun hc1 => ?_) (fun hc1 => ?_)
  ·
   skip
   try simp only [decide_eq_true_eq, decide_eq_false_iff_not, Bool.not_eq_true', Bool.not_eq_false', Bool.and_eq_true, Bool.or_eq_true, Bool.or_eq_false_iff, Bool.and_eq_false_imp] at hc1
   refine awp_regionL (by rfl) ?_
   try simp only [go_sem]
   try simp (disch := omega) only [w_i64, w_u8, w_u16, w_u32, w_u64]
   refine hK8 _ _ _ (awp_keep [0, 3, 4] ?_)
   try simp only [go_sem]
   refine awp_regionL (by rfl) ?_
   try simp only [go_sem]
   try simp (disch := omega) only [w_i64, w_u8, w_u16, w_u32, w_u64]
   have hs := cnt_take_succ l k (by omega)
   simp only [hc1, reduceIte] at hs
   refine hK5 _ _ _ ⟨k + 1, [], ?_, ?_⟩
   ·
    (try simp (disch := omega) only [w_i64, w_u8, w_u16, w_u32, w_u64]); simp only [Lss, go_sem]
    (repeat' apply And.intro) <;> first | rfl | omega | trivial | (simp; done)
   ·
    exact ⟨by omega, by omega⟩
  ·
   skip
   try simp only [decide_eq_true_eq, decide_eq_false_iff_not, Bool.not_eq_true', Bool.not_eq_false', Bool.and_eq_true, Bool.or_eq_true, Bool.or_eq_false_iff, Bool.and_eq_false_imp] at hc1
   refine awp_regionL (by rfl) ?_
   try simp only [go_sem]
   try simp (disch := omega) only [w_i64, w_u8, w_u16, w_u32, w_u64]
   refine ix_map k rfl (by omega) ?_
   try simp only [go_sem]
   try simp (disch := omega) only [w_i64, w_u8, w_u16, w_u32, w_u64]
   refine hK8 _ _ _ (awp_keep [0, 3, 4] ?_)
   try simp only [go_sem]
   refine awp_regionL (by rfl) ?_
   try simp only [go_sem]
   try simp (disch := omega) only [w_i64, w_u8, w_u16, w_u32, w_u64]
   have hs := cnt_take_succ l k (by omega)
   simp only [hc1, reduceIte] at hs
   refine hK5 _ _ _ ⟨k + 1, [], ?_, ?_⟩
   ·
    (try simp (disch := omega) only [w_i64, w_u8, w_u16, w_u32, w_u64]); simp only [Lss, go_sem]
    (repeat' apply And.intro) <;> first | rfl | omega | trivial | (simp; done)
   ·
    exact ⟨by omega, by omega⟩
 ·
  skip
  try simp only [decide_eq_true_eq, decide_eq_false_iff_not, Bool.not_eq_true', Bool.not_eq_false', Bool.and_eq_true, Bool.or_eq_true, Bool.or_eq_false_iff, Bool.and_eq_false_imp] at hc0
  obtain rfl : k = l.length := by omega
  simp only [List.take_length]
  refine awp_exit ?_
  try simp only [go_sem]
  refine hK3 _ _ _ (awp_keep [3] ?_)
  try clear hK3 K3
  try simp only [go_sem]
  refine awp_seq_k fun K10 hK10 => ?_
  refine awp_regionL (by rfl) ?_
  try simp only [go_sem]
  refine hK10 _ _ _ (awp_keep [2] ?_)
  try clear hK10 K10
  try simp only [go_sem]
  refine awp_ret ?_
  try simp only [go_sem]
  try clear hK10 K10
  try clear hK9 K9
  try clear hK8 K8
  try clear hK7 K7
  try clear hK6 K6
  try clear hK5 K5
  try clear hK4 K4
  try clear hK3 K3
  try clear hK2 K2
  try clear hK1 K1
  refine ret_p (by simp) (by rfl) ?_ (by rfl)
  (try simp (disch := omega) only [w_i64, w_u8, w_u16, w_u32, w_u64]); simp only [go_sem] <;> (first | rfl | omega | trivial | (simp; done) | simp_all)
end

section
attribute [local go_sem] segs u32s Seg.cells
set_option maxRecDepth 20000 in
set_option maxHeartbeats 8000000 in
theorem ref03_Right_ok (l : List Seg) : ACX Go.Proofs.Tryd.prog G0 30 [.l (segs l)] [] [] (.l (.bool (pathRight l))) [] [] := by
 refine acalls_intro Go.Proofs.Tryd.func30 rfl (by kernel_rfl) Go.Proofs.Tryd.ntmps30 Go.Proofs.Tryd.results30 (by simp) rfl rfl ?_
 try simp only [go_sem]
 refine awp_seq_k fun K1 hK1 => ?_
 refine awp_regionL (by rfl) ?_
 try simp only [go_sem]
 refine hK1 _ _ _ (awp_keep [0] ?_)
 try clear hK1 K1
 try simp only [go_sem]
 refine awp_seq_k fun K2 hK2 => ?_
 refine awp_seq_k fun K3 hK3 => ?_
 refine awp_regionL (by rfl) ?_
 try simp only [go_sem]
 refine hK3 _ _ _ (awp_keep [0, 7] ?_)
 try clear hK3 K3
 try simp only [go_sem]
 refine awp_cond (by rfl) (fun hc0 => ?_) (fun hc0 => ?_)
 ·
  skip
  try simp only [decide_eq_true_eq, decide_eq_false_iff_not, Bool.not_eq_true', Bool.not_eq_false', Bool.and_eq_true, Bool.or_eq_true, Bool.or_eq_false_iff, Bool.and_eq_false_imp] at hc0
  refine awp_seq_k fun K4 hK4 => ?_
  refine awp_regionL (by rfl) ?_
  try simp only [go_sem]
  refine hK4 _ _ _ (awp_keep [2] ?_)
  try clear hK4 K4
  try simp only [go_sem]
  refine awp_ret ?_
  try simp only [go_sem]
  try clear hK4 K4
  try clear hK3 K3
  try clear hK2 K2
  try clear hK1 K1
  refine ret_p (by simp) (by rfl) ?_ (by rfl)
  (try simp (disch := omega) only [w_i64, w_u8, w_u16, w_u32, w_u64]); simp only [go_sem] <;> (simp [pathRight]; intros; omega)
 ·
  skip
  try simp only [decide_eq_true_eq, decide_eq_false_iff_not, Bool.not_eq_true', Bool.not_eq_false', Bool.and_eq_true, Bool.or_eq_true, Bool.or_eq_false_iff, Bool.and_eq_false_imp] at hc0
  refine awp_skip ?_
  try simp only [go_sem]
  refine hK2 _ _ _ (awp_keep [0] ?_)
  try clear hK2 K2
  try simp only [go_sem]
  refine awp_seq_k fun K5 hK5 => ?_
  refine awp_regionL (by rfl) ?_
  try simp only [go_sem]
  refine hK5 _ _ _ (awp_keep [0, 3] ?_)
  try clear hK5 K5
  try simp only [go_sem]
  refine awp_seq_k fun K6 hK6 => ?_
  refine awp_seq_k fun K7 hK7 => ?_
  refine awp_regionL (by rfl) ?_
  try simp only [go_sem]
  refine hK7 _ _ _ (awp_keep [0, 3, 4] ?_)
  try clear hK7 K7
  try simp only [go_sem]
  refine awp_block ?_
  refine awp_loopE (α := (Nat)) (fun (k : (Nat)) => k ≤ l.length ∧ (l.take k).all segOk = true ∧ 0 ≤ tot (l.take k) ∧ tot (l.take k) ≤ 64 * k) (fun (k : (Nat)) => l.length - k) (fun (k : (Nat)) => [(3, .l (.int .i64 (tot (l.take k)))), (4, .l (.int .i64 (k : Int)))]) (fun (k : (Nat)) => []) (fun (k : (Nat)) => []) [0] 0 [] ?_ ?_ ?_
  ·
   simp only [Lss, go_sem]
   (repeat' apply And.intro) <;> first | rfl | omega | trivial | (simp; done)
  ·
   exact ⟨by omega, rfl, by simp [tot], by simp [tot]⟩
  rintro k ⟨hk, hok, ht0, ht⟩ K8 hK8
  try simp only [go_sem]
  refine awp_seq_k fun K9 hK9 => ?_
  refine awp_seq_k fun K10 hK10 => ?_
  refine awp_regionL (by rfl) ?_
  try simp only [go_sem]
  refine hK10 _ _ _ (awp_keep [0, 3, 4, 11] ?_)
  try clear hK10 K10
  try simp only [go_sem]
  refine awp_cond (by rfl) (fun hc1 => ?_) (fun hc1 => ?_)
  ·
   skip
   try simp only [decide_eq_true_eq, decide_eq_false_iff_not, Bool.not_eq_true', Bool.not_eq_false', Bool.and_eq_true, Bool.or_eq_true, Bool.or_eq_false_iff, Bool.and_eq_false_imp] at hc1
   have hk2 : k < l.length := by omega
   refine awp_skip ?_
   try simp only [go_sem]
   refine hK9 _ _ _ (awp_keep [0, 3, 4] ?_)
   try clear hK9 K9
   try simp only [go_sem]
   refine awp_seq_k fun K11 hK11 => ?_
   refine awp_block ?_
   refine awp_seq_k fun K12 hK12 => ?_
   refine awp_seq_k fun K13 hK13 => ?_
   refine awp_regionL (by rfl) ?_
   try simp only [go_sem]
   refine ix_map k rfl (by omega) ?_
   try simp only [go_sem]
   repeat (refine Must.au ?_; try simp only [go_sem])
   refine gix (Seg.cells l[k]) (by rfl) (by rfl) (by simp only [go_sem]; rfl) (by simp only [go_sem]) (by decide) (fun hg => ?_) ?_
   ·
    skip
    exact ⟨by omega, by simp [sgl, hk2]⟩
   try simp only [go_sem]
   repeat (refine Must.au ?_; try simp only [go_sem])
   refine gix (Seg.cells l[k]) (by rfl) (by rfl) (by simp only [go_sem]; rfl) (by simp only [go_sem]) (by decide) (fun hg => ?_) ?_
   ·
    skip
    exact ⟨by omega, by simp [sgl, hk2]⟩
   try simp only [go_sem]
   repeat (refine Must.au ?_; try simp only [go_sem])
   refine gix (Seg.cells l[k]) (by rfl) (by rfl) (by simp only [go_sem]; rfl) (by simp only [go_sem]) (by decide) (fun hg => ?_) ?_
   ·
    skip
    exact ⟨by omega, by simp [sgl, hk2]⟩
   try simp only [go_sem]
   repeat (refine Must.au ?_; try simp only [go_sem])
   repeat (refine Must.au ?_; try simp only [go_sem])
   refine hK13 _ _ _ (awp_keep [0, 3, 4, 45] ?_)
   try clear hK13 K13
   try simp only [go_sem]
   refine awp_cond (by rfl) (fun hc2 => ?_) (fun hc2 => ?_)
   ·
    skip
    try simp only [decide_eq_true_eq, decide_eq_false_iff_not, Bool.not_eq_true', Bool.not_eq_false', Bool.and_eq_true, Bool.or_eq_true, Bool.or_eq_false_iff, Bool.and_eq_false_imp] at hc2
    refine awp_seq_k fun K14 hK14 => ?_
    refine awp_regionL (by rfl) ?_
    try simp only [go_sem]
    refine hK14 _ _ _ (awp_keep [2] ?_)
    try clear hK14 K14
    try simp only [go_sem]
    refine awp_ret ?_
    try simp only [go_sem]
    try clear hK14 K14
    try clear hK13 K13
    try clear hK12 K12
    try clear hK11 K11
    try clear hK10 K10
    try clear hK9 K9
    try clear hK8 K8
    try clear hK7 K7
    try clear hK6 K6
    try clear hK5 K5
    try clear hK4 K4
    try clear hK3 K3
    try clear hK2 K2
    try clear hK1 K1
    refine ret_p (by simp) (by rfl) ?_ (by rfl)
    (try simp (disch := omega) only [w_i64, w_u8, w_u16, w_u32, w_u64]); simp only [go_sem] <;> (simp [pathRight, all_false (p := segOk) hk2 (segOk_no (by omega))])
   ·
    skip
    try simp only [decide_eq_true_eq, decide_eq_false_iff_not, Bool.not_eq_true', Bool.not_eq_false', Bool.and_eq_true, Bool.or_eq_true, Bool.or_eq_false_iff, Bool.and_eq_false_imp] at hc2
    refine awp_skip ?_
    try simp only [go_sem]
    refine hK12 _ _ _ (awp_keep [0, 3, 4] ?_)
    try clear hK12 K12
    try simp only [go_sem]
    refine awp_regionL (by rfl) ?_
    try simp only [go_sem]
    try simp (disch := omega) only [w_i64, w_u8, w_u16, w_u32, w_u64]
    refine ix_map k rfl (by omega) ?_
    try simp only [go_sem]
    try simp (disch := omega) only [w_i64, w_u8, w_u16, w_u32, w_u64]
    refine hK11 _ _ _ (awp_keep [0, 3, 4] ?_)
    try clear hK11 K11
    try simp only [go_sem]
    refine awp_regionL (by rfl) ?_
    try simp only [go_sem]
    try simp (disch := omega) only [w_i64, w_u8, w_u16, w_u32, w_u64]
    have hs := tot_take_succ l k (by omega)
    have hso : segOk l[k] = true := (segOk_iff _).2 (by omega)
    have hso2 := (segOk_iff _).1 hso
    refine hK8 _ _ _ ⟨k + 1, [], ?_, ?_⟩
    ·
     (try simp (disch := omega) only [w_i64, w_u8, w_u16, w_u32, w_u64]); simp only [Lss, go_sem]
     (repeat' apply And.intro) <;> first | rfl | omega | trivial | (simp; done)
    ·
     refine ⟨⟨?_, all_take_succ hok hk2 hso, ?_, ?_⟩, ?_⟩ <;> omega
  ·
   skip
   try simp only [decide_eq_true_eq, decide_eq_false_iff_not, Bool.not_eq_true', Bool.not_eq_false', Bool.and_eq_true, Bool.or_eq_true, Bool.or_eq_false_iff, Bool.and_eq_false_imp] at hc1
   obtain rfl : k = l.length := by omega
   simp only [List.take_length] at hok ht ht0 ⊢
   refine awp_exit ?_
   try simp only [go_sem]
   refine hK6 _ _ _ (awp_keep [3] ?_)
   try clear hK6 K6
   try simp only [go_sem]
   refine awp_seq_k fun K15 hK15 => ?_
   refine awp_regionL (by rfl) ?_
   try simp only [go_sem]
   refine hK15 _ _ _ (awp_keep [2] ?_)
   try clear hK15 K15
   try simp only [go_sem]
   refine awp_ret ?_
   try simp only [go_sem]
   try clear hK15 K15
   try clear hK14 K14
   try clear hK13 K13
   try clear hK12 K12
   try clear hK11 K11
   try clear hK10 K10
   try clear hK9 K9
   try clear hK8 K8
   try clear hK7 K7
   try clear hK6 K6
   try clear hK5 K5
   try clear hK4 K4
   try clear hK3 K3
   try clear hK2 K2
   try clear hK1 K1
   refine ret_p (by simp) (by rfl) ?_ (by rfl)
   (try simp (disch := omega) only [w_i64, w_u8, w_u16, w_u32, w_u64]); simp only [go_sem] <;> (simp [pathRight, hok]; omega)
end

end Go.Abs
