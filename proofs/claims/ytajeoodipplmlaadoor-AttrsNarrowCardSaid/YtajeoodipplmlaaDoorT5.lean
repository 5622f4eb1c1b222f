/-
  ATTRIBUTES: what they are, when two are the same, which kinds are known, which numbers may be a next one.
-/
import Derived.Test.YtajeoodipplmlaaDoorT4
set_option linter.all false
namespace Go.Abs
open Go Go.Proofs
structure Raw where
  flags : Int
  typ : Int
  data : List Int
  deriving DecidableEq
def Raw.cells (r : Raw) : List LV := [.int .i64 r.flags, .int .i64 r.typ, bytes r.data]
def rwl (l : List Raw) : List (List LV) := l.map Raw.cells
@[go_sem] theorem rwl_length (l : List Raw) : (rwl l).length = l.length := by simp [rwl]
def raws (l : List Raw) : LV := .slice .shared 3 (rwl l)
structure Attrs where
  origin : Int
  path : List Seg
  next : Int
  med : Int
  pref : Int
  atomic : Bool
  hasAggr : Bool
  aggrAS : Int
  aggrAddr : Int
  comms : List Int
  raws : List Raw
  deriving DecidableEq
def Attrs.cells (a : Attrs) : List LV := [.int .i64 a.origin, segs a.path, .int .u32 a.next, .int .i64 a.med, .int .i64 a.pref, .bool a.atomic, .bool a.hasAggr, .int .u32 a.aggrAS, .int .u32 a.aggrAddr, u32s a.comms, Go.Abs.raws a.raws]
/-- Bytes are bytes. -/
def isB (l : List Int) : Prop := ∀ x ∈ l, 0 ≤ x ∧ x < 256
theorem isB_cells {l : List Int} (h : isB l) : ∀ c ∈ bl l, ∃ n : Int, c = [.int .u8 n] ∧ 0 ≤ n ∧ n < 256 := by
  intro c hc
  simp only [bl, List.mem_map] at hc
  obtain ⟨n, hn, rfl⟩ := hc
  exact ⟨n, rfl, h n hn⟩
theorem byteOf_bl (l : List Int) : (bl l).map byteOf = l := by simp [bl, byteOf, Function.comp_def]
def zeroS : Attrs := ⟨0, [], 0, -1, -1, false, false, 0, 0, [], []⟩
def flagsS (k : Int) : Int := if k = 1 ∨ k = 2 ∨ k = 3 ∨ k = 5 ∨ k = 6 then 64 else if k = 4 then 128 else if k = 7 ∨ k = 8 ∨ k = 17 ∨ k = 18 then 192 else 0
def nextS (n : Int) : Bool := !decide (n / 16777216 = 0) && (!decide (n / 16777216 = 127) && decide (n / 16777216 < 224))
def numberS (n : Int) : Bool := decide (-1 ≤ n) && decide (n ≤ 4294967295)
/-- Is a path short enough? -/
def tot3 : List Seg → Int
  | [] => 0
  | s :: l => (if 300 < (s.nums.length : Int) then 300 else (s.nums.length : Int)) + tot3 l
theorem tot3_take_succ (l : List Seg) (k : Nat) (h : k < l.length) : tot3 (l.take (k + 1)) = tot3 (l.take k) + (if 300 < (l[k].nums.length : Int) then 300 else (l[k].nums.length : Int)) := by
  induction l generalizing k with
  | nil => simp at h
  | cons s l ih =>
    cases k with
    | zero => simp [tot3]
    | succ k =>
      simp only [List.take_succ_cons, tot3, List.getElem_cons_succ]
      rw [ih k (by simpa using h)]; omega
theorem tot3_nonneg : ∀ (l : List Seg), 0 ≤ tot3 l
  | [] => by simp [tot3]
  | s :: l => by simp only [tot3]; have := tot3_nonneg l; split <;> omega
theorem tot3_take_le (l : List Seg) (k : Nat) : tot3 (l.take k) ≤ tot3 l := by
  induction l generalizing k with
  | nil => simp
  | cons s l ih =>
    cases k with
    | zero => simp only [List.take_zero]; exact tot3_nonneg _
    | succ k => simp only [List.take_succ_cons, tot3]; have := ih k; omega
def few3 (l : List Seg) : Bool := decide (l.length ≤ 12) && decide (tot3 l ≤ 300)

section
attribute [local go_sem] segs Seg.cells u32s
set_option maxRecDepth 20000 in
set_option maxHeartbeats 8000000 in
theorem law03_Few_ok (l : List Seg) : ACX Go.Proofs.Tryd.prog G0 26 [.l (segs l)] [] [] (.l (.bool (few3 l))) [] [] := by
 refine acalls_intro Go.Proofs.Tryd.func26 rfl (by kernel_rfl) Go.Proofs.Tryd.ntmps26 Go.Proofs.Tryd.results26 (by simp) rfl rfl ?_
 try simp only [go_sem]
 refine awp_seq_k fun K1 hK1 => ?_
 refine awp_regionL (by rfl) ?_
 try simp only [go_sem]
 refine hK1 _ _ _ (awp_keep [0] ?_)
 try clear hK1 K1
 try simp only [go_sem]
 refine awp_seq_k fun K2 hK2 => ?_
 refine awp_seq_k fun K3 hK3 => ?_
 refine awp_regionL (by rfl) ?_
 try simp only [go_sem]
 refine hK3 _ _ _ (awp_keep [0, 7] ?_)
 try clear hK3 K3
 try simp only [go_sem]
 refine awp_cond (by rfl) (fun hc0 => ?_) (fun hc0 => ?_)
 ·
  skip
  try simp only [decide_eq_true_eq, decide_eq_false_iff_not, Bool.not_eq_true', Bool.not_eq_false', Bool.and_eq_true, Bool.or_eq_true, Bool.or_eq_false_iff, Bool.and_eq_false_imp] at hc0
  refine awp_seq_k fun K4 hK4 => ?_
  refine awp_regionL (by rfl) ?_
  try simp only [go_sem]
  refine hK4 _ _ _ (awp_keep [2] ?_)
  try clear hK4 K4
  try simp only [go_sem]
  refine awp_ret ?_
  try simp only [go_sem]
  try clear hK4 K4
  try clear hK3 K3
  try clear hK2 K2
  try clear hK1 K1
  refine ret_p (by simp) (by rfl) ?_ (by rfl)
  (try simp (disch := omega) only [w_i64, w_u8, w_u16, w_u32, w_u64]); simp only [go_sem] <;> (simp [few3]; intros; omega)
 ·
  skip
  try simp only [decide_eq_true_eq, decide_eq_false_iff_not, Bool.not_eq_true', Bool.not_eq_false', Bool.and_eq_true, Bool.or_eq_true, Bool.or_eq_false_iff, Bool.and_eq_false_imp] at hc0
  refine awp_skip ?_
  try simp only [go_sem]
  refine hK2 _ _ _ (awp_keep [0] ?_)
  try clear hK2 K2
  try simp only [go_sem]
  refine awp_seq_k fun K5 hK5 => ?_
  refine awp_regionL (by rfl) ?_
  try simp only [go_sem]
  refine hK5 _ _ _ (awp_keep [0, 3] ?_)
  try clear hK5 K5
  try simp only [go_sem]
  refine awp_seq_k fun K6 hK6 => ?_
  refine awp_seq_k fun K7 hK7 => ?_
  refine awp_regionL (by rfl) ?_
  try simp only [go_sem]
  refine hK7 _ _ _ (awp_keep [0, 3, 4] ?_)
  try clear hK7 K7
  try simp only [go_sem]
  refine awp_block ?_
  refine awp_loopE (α := (Nat)) (fun (k : (Nat)) => k ≤ l.length ∧ tot3 (l.take k) ≤ 300) (fun (k : (Nat)) => l.length - k) (fun (k : (Nat)) => [(3, .l (.int .i64 (tot3 (l.take k)))), (4, .l (.int .i64 (k : Int)))]) (fun (k : (Nat)) => []) (fun (k : (Nat)) => []) [0] 0 [] ?_ ?_ ?_
  ·
   simp only [Lss, go_sem]
   (repeat' apply And.intro) <;> first | rfl | omega | trivial | (simp; done)
  ·
   exact ⟨by omega, by simp [tot3]⟩
  rintro k ⟨hk, ht⟩ K8 hK8
  try simp only [go_sem]
  have hn := tot3_nonneg (l.take k)
  refine awp_seq_k fun K9 hK9 => ?_
  refine awp_seq_k fun K10 hK10 => ?_
  refine awp_regionL (by rfl) ?_
  try simp only [go_sem]
  refine hK10 _ _ _ (awp_keep [0, 3, 4, 11] ?_)
  try clear hK10 K10
  try simp only [go_sem]
  refine awp_cond (by rfl) (fun hc1 => ?_) (fun hc1 => ?_)
  ·
   skip
   try simp only [decide_eq_true_eq, decide_eq_false_iff_not, Bool.not_eq_true', Bool.not_eq_false', Bool.and_eq_true, Bool.or_eq_true, Bool.or_eq_false_iff, Bool.and_eq_false_imp] at hc1
   have hk2 : k < l.length := by omega
   have hs := tot3_take_succ l k hk2
   have hle := tot3_take_le l (k + 1)
   refine awp_skip ?_
   try simp only [go_sem]
   refine hK9 _ _ _ (awp_keep [0, 3, 4] ?_)
   try clear hK9 K9
   try simp only [go_sem]
   refine awp_seq_k fun K11 hK11 => ?_
   refine awp_block ?_
   refine awp_seq_k fun K12 hK12 => ?_
   refine awp_regionL (by rfl) ?_
   try simp only [go_sem]
   try simp (disch := omega) only [w_i64, w_u8, w_u16, w_u32, w_u64]
   refine ix_map k rfl (by omega) ?_
   try simp only [go_sem]
   try simp (disch := omega) only [w_i64, w_u8, w_u16, w_u32, w_u64]
   refine hK12 _ _ _ (awp_keep [0, 3, 4] ?_)
   try clear hK12 K12
   try simp only [go_sem]
   refine awp_seq_k fun K13 hK13 => ?_
   refine awp_regionL (by rfl) ?_
   try simp only [go_sem]
   refine hK13 _ _ _ (awp_keep [0, 3, 4, 24] ?_)
   try clear hK13 K13
   try simp only [go_sem]
   refine awp_cond (by rfl) (fun hc2 => ?_) (fun hc2 => ?_)
   ·
    skip
    try simp only [decide_eq_true_eq, decide_eq_false_iff_not, Bool.not_eq_true', Bool.not_eq_false', Bool.and_eq_true, Bool.or_eq_true, Bool.or_eq_false_iff, Bool.and_eq_false_imp] at hc2
    refine awp_seq_k fun K14 hK14 => ?_
    refine awp_regionL (by rfl) ?_
    try simp only [go_sem]
    refine hK14 _ _ _ (awp_keep [2] ?_)
    try clear hK14 K14
    try simp only [go_sem]
    refine awp_ret ?_
    try simp only [go_sem]
    try clear hK14 K14
    try clear hK13 K13
    try clear hK12 K12
    try clear hK11 K11
    try clear hK10 K10
    try clear hK9 K9
    try clear hK8 K8
    try clear hK7 K7
    try clear hK6 K6
    try clear hK5 K5
    try clear hK4 K4
    try clear hK3 K3
    try clear hK2 K2
    try clear hK1 K1
    refine ret_p (by simp) (by rfl) ?_ (by rfl)
    (try simp (disch := omega) only [w_i64, w_u8, w_u16, w_u32, w_u64]); simp only [go_sem] <;> (simp [few3]; intros; omega)
   ·
    skip
    try simp only [decide_eq_true_eq, decide_eq_false_iff_not, Bool.not_eq_true', Bool.not_eq_false', Bool.and_eq_true, Bool.or_eq_true, Bool.or_eq_false_iff, Bool.and_eq_false_imp] at hc2
    refine awp_skip ?_
    try simp only [go_sem]
    refine hK11 _ _ _ (awp_keep [0, 3, 4] ?_)
    try clear hK11 K11
    try simp only [go_sem]
    refine awp_regionL (by rfl) ?_
    try simp only [go_sem]
    try simp (disch := omega) only [w_i64, w_u8, w_u16, w_u32, w_u64]
    refine hK8 _ _ _ ⟨k + 1, [], ?_, ?_⟩
    ·
     (try simp (disch := omega) only [w_i64, w_u8, w_u16, w_u32, w_u64]); simp only [Lss, go_sem]
     (repeat' apply And.intro) <;> first | rfl | omega | trivial | (simp; done)
    ·
     refine ⟨⟨?_, ?_⟩, ?_⟩ <;> omega
  ·
   skip
   try simp only [decide_eq_true_eq, decide_eq_false_iff_not, Bool.not_eq_true', Bool.not_eq_false', Bool.and_eq_true, Bool.or_eq_true, Bool.or_eq_false_iff, Bool.and_eq_false_imp] at hc1
   obtain rfl : k = l.length := by omega
   simp only [List.take_length] at ht
   refine awp_exit ?_
   try simp only [go_sem]
   refine hK6 _ _ _ (awp_keep [] ?_)
   try clear hK6 K6
   try simp only [go_sem]
   refine awp_seq_k fun K15 hK15 => ?_
   refine awp_regionL (by rfl) ?_
   try simp only [go_sem]
   refine hK15 _ _ _ (awp_keep [2] ?_)
   try clear hK15 K15
   try simp only [go_sem]
   refine awp_ret ?_
   try simp only [go_sem]
   try clear hK15 K15
   try clear hK14 K14
   try clear hK13 K13
   try clear hK12 K12
   try clear hK11 K11
   try clear hK10 K10
   try clear hK9 K9
   try clear hK8 K8
   try clear hK7 K7
   try clear hK6 K6
   try clear hK5 K5
   try clear hK4 K4
   try clear hK3 K3
   try clear hK2 K2
   try clear hK1 K1
   refine ret_p (by simp) (by rfl) ?_ (by rfl)
   (try simp (disch := omega) only [w_i64, w_u8, w_u16, w_u32, w_u64]); simp only [go_sem] <;> (simp [few3]; omega)
end

section
attribute [local go_sem] Raw.cells bytes
set_option maxRecDepth 20000 in
set_option maxHeartbeats 8000000 in
theorem attrs_Same_1_ok (x y : Raw) : ACX Go.Proofs.Tryd.prog G0 35 [.agg x.cells, .agg y.cells] [] [] (.l (.bool (decide (x = y)))) [] [] := by
 refine acalls_intro Go.Proofs.Tryd.func35 rfl (by kernel_rfl) Go.Proofs.Tryd.ntmps35 Go.Proofs.Tryd.results35 (by simp) rfl rfl ?_
 try simp only [go_sem]
 refine awp_seq_k fun K1 hK1 => ?_
 refine awp_regionL (by rfl) ?_
 try simp only [go_sem]
 refine hK1 _ _ _ (awp_keep [2, 3] ?_)
 try clear hK1 K1
 try simp only [go_sem]
 refine awp_seq_k fun K2 hK2 => ?_
 refine awp_regionL (by rfl) ?_
 try simp only [go_sem]
 refine gcall_p ?_ (by rfl) (by simp only [go_sem]; rfl) (fun hg => ⟨Equal_u8_ok x.data y.data, by simp only [hg, go_sem]⟩) ?_
 ·
  rfl
 try simp only [go_sem]
 repeat (refine Must.au ?_; try simp only [go_sem])
 repeat (refine Must.au ?_; try simp only [go_sem])
 refine hK2 _ _ _ (awp_keep [4] ?_)
 try clear hK2 K2
 try simp only [go_sem]
 refine awp_ret ?_
 try simp only [go_sem]
 try clear hK2 K2
 try clear hK1 K1
 refine ret_p (by simp) (by rfl) ?_ (by rfl)
 (try simp (disch := omega) only [w_i64, w_u8, w_u16, w_u32, w_u64]); simp only [go_sem] <;> (cases x; cases y; simp [Bool.and_assoc, and_assoc])
end

section
attribute [local go_sem] raws Raw.cells bytes
set_option maxRecDepth 20000 in
set_option maxHeartbeats 8000000 in
theorem EqualFunc_raw_ok (a b : List Raw) : ACX Go.Proofs.Tryd.prog G0 37 [.l (raws a), .l (raws b), .l (.fn 35 [])] [] [] (.l (.bool (decide (a = b)))) [] [] := by
 refine acalls_intro Go.Proofs.Tryd.func37 rfl (by kernel_rfl) Go.Proofs.Tryd.ntmps37 Go.Proofs.Tryd.results37 (by simp) rfl rfl ?_
 try simp only [go_sem]
 refine awp_seq_k fun K1 hK1 => ?_
 refine awp_regionL (by rfl) ?_
 try simp only [go_sem]
 refine hK1 _ _ _ (awp_keep [0, 1, 2] ?_)
 try clear hK1 K1
 try simp only [go_sem]
 refine awp_seq_k fun K2 hK2 => ?_
 refine awp_seq_k fun K3 hK3 => ?_
 refine awp_regionL (by rfl) ?_
 try simp only [go_sem]
 refine hK3 _ _ _ (awp_keep [0, 1, 2, 14] ?_)
 try clear hK3 K3
 try simp only [go_sem]
 refine awp_cond (by rfl) (fun hc0 => ?_) (fun hc0 => ?_)
 ·
  skip
  try simp only [decide_eq_true_eq, decide_eq_false_iff_not, Bool.not_eq_true', Bool.not_eq_false', Bool.and_eq_true, Bool.or_eq_true, Bool.or_eq_false_iff, Bool.and_eq_false_imp] at hc0
  refine awp_seq_k fun K4 hK4 => ?_
  refine awp_regionL (by rfl) ?_
  try simp only [go_sem]
  refine hK4 _ _ _ (awp_keep [6] ?_)
  try clear hK4 K4
  try simp only [go_sem]
  refine awp_ret ?_
  try simp only [go_sem]
  try clear hK4 K4
  try clear hK3 K3
  try clear hK2 K2
  try clear hK1 K1
  refine ret_p (by simp) (by rfl) ?_ (by rfl)
  (try simp (disch := omega) only [w_i64, w_u8, w_u16, w_u32, w_u64]); simp only [go_sem] <;> (simp [ne_of_len hc0])
 ·
  skip
  try simp only [decide_eq_true_eq, decide_eq_false_iff_not, Bool.not_eq_true', Bool.not_eq_false', Bool.and_eq_true, Bool.or_eq_true, Bool.or_eq_false_iff, Bool.and_eq_false_imp] at hc0
  refine awp_len 0 rfl fun hlen => ?_
  simp only [rwl_length] at hlen
  refine awp_skip ?_
  try simp only [go_sem]
  refine hK2 _ _ _ (awp_keep [0, 1, 2] ?_)
  try clear hK2 K2
  try simp only [go_sem]
  refine awp_seq_k fun K5 hK5 => ?_
  refine awp_seq_k fun K6 hK6 => ?_
  refine awp_regionL (by rfl) ?_
  try simp only [go_sem]
  refine hK6 _ _ _ (awp_keep [1, 2, 15, 16, 17] ?_)
  try clear hK6 K6
  try simp only [go_sem]
  refine awp_block ?_
  refine awp_loopE (α := (Nat)) (fun (k : (Nat)) => k ≤ a.length ∧ a.take k = b.take k) (fun (k : (Nat)) => a.length - k) (fun (k : (Nat)) => [(17, .l (.int .i64 (k : Int)))]) (fun (k : (Nat)) => []) (fun (k : (Nat)) => []) [1, 2, 15, 16] 0 [] ?_ ?_ ?_
  ·
   simp only [Lss, go_sem]
   (repeat' apply And.intro) <;> first | rfl | omega | trivial | (simp; done)
  ·
   exact ⟨by omega, rfl⟩
  rintro k ⟨hk, he⟩ K7 hK7
  try simp only [go_sem]
  refine awp_seq_k fun K8 hK8 => ?_
  refine awp_regionL (by rfl) ?_
  try simp only [go_sem]
  refine hK8 _ _ _ (awp_keep [1, 2, 15, 16, 17, 18] ?_)
  try clear hK8 K8
  try simp only [go_sem]
  refine awp_seq_k fun K9 hK9 => ?_
  refine awp_cond (by rfl) (fun hc1 => ?_) (fun hc1 => ?_)
  ·
   skip
   try simp only [decide_eq_true_eq, decide_eq_false_iff_not, Bool.not_eq_true', Bool.not_eq_false', Bool.and_eq_true, Bool.or_eq_true, Bool.or_eq_false_iff, Bool.and_eq_false_imp] at hc1
   have hk2 : k < a.length := by omega
   have hk3 : k < b.length := by omega
   refine awp_skip ?_
   try simp only [go_sem]
   refine hK9 _ _ _ (awp_keep [1, 2, 15, 16, 17] ?_)
   try clear hK9 K9
   try simp only [go_sem]
   refine awp_seq_k fun K10 hK10 => ?_
   refine awp_block ?_
   refine awp_seq_k fun K11 hK11 => ?_
   refine awp_regionL (by rfl) ?_
   try simp only [go_sem]
   refine ix_map k rfl (by omega) ?_
   try simp only [go_sem]
   refine hK11 _ _ _ (awp_keep [1, 2, 7, 8, 15, 16, 17] ?_)
   try clear hK11 K11
   try simp only [go_sem]
   refine awp_seq_k fun K12 hK12 => ?_
   refine awp_regionL (by rfl) ?_
   try simp only [go_sem]
   refine ix_map k rfl (by omega) ?_
   try simp only [go_sem]
   refine hK12 _ _ _ (awp_keep [1, 2, 8, 9, 15, 16, 17] ?_)
   try clear hK12 K12
   try simp only [go_sem]
   refine awp_seq_k fun K13 hK13 => ?_
   refine awp_regionL (by rfl) ?_
   try simp only [go_sem]
   refine acall_pa (attrs_Same_1_ok a[k] b[k]) ?_
   try simp only [go_sem]
   refine hK13 _ _ _ (awp_keep [1, 2, 15, 16, 17, 30] ?_)
   try clear hK13 K13
   try simp only [go_sem]
   refine awp_cond (by rfl) (fun hc2 => ?_) (fun hc2 => ?_)
   ·
    skip
    try simp only [decide_eq_true_eq, decide_eq_false_iff_not, Bool.not_eq_true', Bool.not_eq_false', Bool.and_eq_true, Bool.or_eq_true, Bool.or_eq_false_iff, Bool.and_eq_false_imp] at hc2
    refine awp_seq_k fun K14 hK14 => ?_
    refine awp_regionL (by rfl) ?_
    try simp only [go_sem]
    refine hK14 _ _ _ (awp_keep [6] ?_)
    try clear hK14 K14
    try simp only [go_sem]
    refine awp_ret ?_
    try simp only [go_sem]
    try clear hK14 K14
    try clear hK13 K13
    try clear hK12 K12
    try clear hK11 K11
    try clear hK10 K10
    try clear hK9 K9
    try clear hK8 K8
    try clear hK7 K7
    try clear hK6 K6
    try clear hK5 K5
    try clear hK4 K4
    try clear hK3 K3
    try clear hK2 K2
    try clear hK1 K1
    refine ret_p (by simp) (by rfl) ?_ (by rfl)
    (try simp (disch := omega) only [w_i64, w_u8, w_u16, w_u32, w_u64]); simp only [go_sem] <;> (simp [ne_of_get hk2 hk3 (by assumption)])
   ·
    skip
    try simp only [decide_eq_true_eq, decide_eq_false_iff_not, Bool.not_eq_true', Bool.not_eq_false', Bool.and_eq_true, Bool.or_eq_true, Bool.or_eq_false_iff, Bool.and_eq_false_imp] at hc2
    refine awp_skip ?_
    try simp only [go_sem]
    refine hK10 _ _ _ (awp_keep [1, 2, 15, 16, 17] ?_)
    try clear hK10 K10
    try simp only [go_sem]
    refine awp_regionL (by rfl) ?_
    try simp only [go_sem]
    try simp (disch := omega) only [w_i64, w_u8, w_u16, w_u32, w_u64]
    refine hK7 _ _ _ ⟨k + 1, [], ?_, ?_⟩
    ·
     (try simp (disch := omega) only [w_i64, w_u8, w_u16, w_u32, w_u64]); simp only [Lss, go_sem]
     (repeat' apply And.intro) <;> first | rfl | omega | trivial | (simp; done)
    ·
     exact ⟨⟨by omega, take_eq_succ he hk2 hk3 (by simpa using hc2)⟩, by omega⟩
  ·
   skip
   try simp only [decide_eq_true_eq, decide_eq_false_iff_not, Bool.not_eq_true', Bool.not_eq_false', Bool.and_eq_true, Bool.or_eq_true, Bool.or_eq_false_iff, Bool.and_eq_false_imp] at hc1
   refine awp_exit ?_
   try simp only [go_sem]
   refine hK5 _ _ _ (awp_keep [] ?_)
   try clear hK5 K5
   try simp only [go_sem]
   refine awp_seq_k fun K15 hK15 => ?_
   refine awp_regionL (by rfl) ?_
   try simp only [go_sem]
   refine hK15 _ _ _ (awp_keep [6] ?_)
   try clear hK15 K15
   try simp only [go_sem]
   refine awp_ret ?_
   try simp only [go_sem]
   try clear hK15 K15
   try clear hK14 K14
   try clear hK13 K13
   try clear hK12 K12
   try clear hK11 K11
   try clear hK10 K10
   try clear hK9 K9
   try clear hK8 K8
   try clear hK7 K7
   try clear hK6 K6
   try clear hK5 K5
   try clear hK4 K4
   try clear hK3 K3
   try clear hK2 K2
   try clear hK1 K1
   refine ret_p (by simp) (by rfl) ?_ (by rfl)
   (try simp (disch := omega) only [w_i64, w_u8, w_u16, w_u32, w_u64]); simp only [go_sem] <;> (simp [eq_of_take he (by omega) (by omega)])
end

section
attribute [local go_sem] Attrs.cells segs u32s raws
set_option maxRecDepth 20000 in
set_option maxHeartbeats 8000000 in
theorem attrs_Same_ok (x y : Attrs) : ACX Go.Proofs.Tryd.prog G0 19 [.agg x.cells, .agg y.cells] [] [] (.l (.bool (decide (x = y)))) [] [] := by
 refine acalls_intro Go.Proofs.Tryd.func19 rfl (by kernel_rfl) Go.Proofs.Tryd.ntmps19 Go.Proofs.Tryd.results19 (by simp) rfl rfl ?_
 try simp only [go_sem]
 refine awp_seq_k fun K1 hK1 => ?_
 refine awp_regionL (by rfl) ?_
 try simp only [go_sem]
 refine hK1 _ _ _ (awp_keep [2, 3] ?_)
 try clear hK1 K1
 try simp only [go_sem]
 refine awp_seq_k fun K2 hK2 => ?_
 refine awp_seq_k fun K3 hK3 => ?_
 refine awp_regionL (by rfl) ?_
 try simp only [go_sem]
 refine acall_pa (aspath_Same_ok x.path y.path) ?_
 try simp only [go_sem]
 repeat (refine Must.au ?_; try simp only [go_sem])
 refine gcall_p ?_ (by rfl) (by simp only [go_sem]; rfl) (fun hg => ⟨Equal_u32_ok x.comms y.comms, by simp only [hg, go_sem]⟩) ?_
 ·
  rfl
 try simp only [go_sem]
 repeat (refine Must.au ?_; try simp only [go_sem])
 repeat (refine Must.au ?_; try simp only [go_sem])
 refine hK3 _ _ _ (awp_keep [2, 3, 19] ?_)
 try clear hK3 K3
 try simp only [go_sem]
 refine awp_cond (by rfl) (fun hc0 => ?_) (fun hc0 => ?_)
 ·
  skip
  try simp only [decide_eq_true_eq, decide_eq_false_iff_not, Bool.not_eq_true', Bool.not_eq_false', Bool.and_eq_true, Bool.or_eq_true, Bool.or_eq_false_iff, Bool.and_eq_false_imp] at hc0
  refine awp_seq_k fun K4 hK4 => ?_
  refine awp_regionL (by rfl) ?_
  try simp only [go_sem]
  refine hK4 _ _ _ (awp_keep [4] ?_)
  try clear hK4 K4
  try simp only [go_sem]
  refine awp_ret ?_
  try simp only [go_sem]
  try clear hK4 K4
  try clear hK3 K3
  try clear hK2 K2
  try clear hK1 K1
  refine ret_p (by simp) (by rfl) ?_ (by rfl)
  (try simp (disch := omega) only [w_i64, w_u8, w_u16, w_u32, w_u64]); simp only [go_sem] <;> (cases x; cases y; simp only [Attrs.mk.injEq] at *; first | (simp_all [Bool.and_assoc, Bool.beq_eq_decide_eq]; done) | (simp; intros; simp_all))
 ·
  skip
  try simp only [decide_eq_true_eq, decide_eq_false_iff_not, Bool.not_eq_true', Bool.not_eq_false', Bool.and_eq_true, Bool.or_eq_true, Bool.or_eq_false_iff, Bool.and_eq_false_imp] at hc0
  refine awp_skip ?_
  try simp only [go_sem]
  refine hK2 _ _ _ (awp_keep [2, 3] ?_)
  try clear hK2 K2
  try simp only [go_sem]
  refine awp_seq_k fun K5 hK5 => ?_
  refine awp_regionL (by rfl) ?_
  try simp only [go_sem]
  refine hK5 _ _ _ (awp_keep [2, 3, 5] ?_)
  try clear hK5 K5
  try simp only [go_sem]
  refine awp_seq_k fun K6 hK6 => ?_
  refine awp_seq_k fun K7 hK7 => ?_
  refine awp_regionL (by rfl) ?_
  try simp only [go_sem]
  refine acall_pa (EqualFunc_raw_ok x.raws y.raws) ?_
  try simp only [go_sem]
  repeat (refine Must.au ?_; try simp only [go_sem])
  repeat (refine Must.au ?_; try simp only [go_sem])
  refine hK7 _ _ _ (awp_keep [2, 3, 54] ?_)
  try clear hK7 K7
  try simp only [go_sem]
  refine awp_cond (by rfl) (fun hc1 => ?_) (fun hc1 => ?_)
  ·
   skip
   try simp only [decide_eq_true_eq, decide_eq_false_iff_not, Bool.not_eq_true', Bool.not_eq_false', Bool.and_eq_true, Bool.or_eq_true, Bool.or_eq_false_iff, Bool.and_eq_false_imp] at hc1
   refine awp_seq_k fun K8 hK8 => ?_
   refine awp_regionL (by rfl) ?_
   try simp only [go_sem]
   refine hK8 _ _ _ (awp_keep [4] ?_)
   try clear hK8 K8
   try simp only [go_sem]
   refine awp_ret ?_
   try simp only [go_sem]
   try clear hK8 K8
   try clear hK7 K7
   try clear hK6 K6
   try clear hK5 K5
   try clear hK4 K4
   try clear hK3 K3
   try clear hK2 K2
   try clear hK1 K1
   refine ret_p (by simp) (by rfl) ?_ (by rfl)
   (try simp (disch := omega) only [w_i64, w_u8, w_u16, w_u32, w_u64]); simp only [go_sem] <;> (cases x; cases y; simp only [Attrs.mk.injEq] at *; first | (simp_all [Bool.and_assoc, Bool.beq_eq_decide_eq]; done) | (simp; intros; simp_all))
  ·
   skip
   try simp only [decide_eq_true_eq, decide_eq_false_iff_not, Bool.not_eq_true', Bool.not_eq_false', Bool.and_eq_true, Bool.or_eq_true, Bool.or_eq_false_iff, Bool.and_eq_false_imp] at hc1
   refine awp_skip ?_
   try simp only [go_sem]
   refine hK6 _ _ _ (awp_keep [2, 3] ?_)
   try clear hK6 K6
   try simp only [go_sem]
   refine awp_seq_k fun K9 hK9 => ?_
   refine awp_regionL (by rfl) ?_
   try simp only [go_sem]
   repeat (refine Must.au ?_; try simp only [go_sem])
   refine hK9 _ _ _ (awp_keep [4] ?_)
   try clear hK9 K9
   try simp only [go_sem]
   refine awp_ret ?_
   try simp only [go_sem]
   try clear hK9 K9
   try clear hK8 K8
   try clear hK7 K7
   try clear hK6 K6
   try clear hK5 K5
   try clear hK4 K4
   try clear hK3 K3
   try clear hK2 K2
   try clear hK1 K1
   refine ret_p (by simp) (by rfl) ?_ (by rfl)
   (try simp (disch := omega) only [w_i64, w_u8, w_u16, w_u32, w_u64]); simp only [go_sem] <;> (cases x; cases y; simp only [Attrs.mk.injEq] at *; first | (simp_all [Bool.and_assoc, Bool.beq_eq_decide_eq]; done) | (simp; intros; simp_all))
end

set_option maxRecDepth 20000 in
set_option maxHeartbeats 8000000 in
theorem attrs_number_ok (n : Int) : ACX Go.Proofs.Tryd.prog G0 28 [.l (.int .i64 n)] [] [] (.l (.bool (numberS n))) [] [] := by
 refine acalls_intro Go.Proofs.Tryd.func28 rfl (by kernel_rfl) Go.Proofs.Tryd.ntmps28 Go.Proofs.Tryd.results28 (by simp) rfl rfl ?_
 try simp only [go_sem]
 refine awp_seq_k fun K1 hK1 => ?_
 refine awp_regionL (by rfl) ?_
 try simp only [go_sem]
 refine hK1 _ _ _ (awp_keep [0] ?_)
 try clear hK1 K1
 try simp only [go_sem]
 refine awp_seq_k fun K2 hK2 => ?_
 refine awp_regionL (by rfl) ?_
 try simp only [go_sem]
 repeat (refine Must.au ?_; try simp only [go_sem])
 refine hK2 _ _ _ (awp_keep [2] ?_)
 try clear hK2 K2
 try simp only [go_sem]
 refine awp_ret ?_
 try simp only [go_sem]
 try clear hK2 K2
 try clear hK1 K1
 refine ret_p (by simp) (by rfl) ?_ (by rfl)
 (try simp (disch := omega) only [w_i64, w_u8, w_u16, w_u32, w_u64]); simp only [go_sem] <;> (simp [numberS])

set_option maxRecDepth 20000 in
set_option maxHeartbeats 8000000 in
theorem attrs_Next_ok (n : Int) (h0 : 0 ≤ n) (h1 : n < 4294967296) : ACX Go.Proofs.Tryd.prog G0 14 [.l (.int .u32 n)] [] [] (.l (.bool (nextS n))) [] [] := by
 refine acalls_intro Go.Proofs.Tryd.func14 rfl (by kernel_rfl) Go.Proofs.Tryd.ntmps14 Go.Proofs.Tryd.results14 (by simp) rfl rfl ?_
 try simp only [go_sem]
 refine awp_seq_k fun K1 hK1 => ?_
 refine awp_regionL (by rfl) ?_
 try simp only [go_sem]
 refine hK1 _ _ _ (awp_keep [0] ?_)
 try clear hK1 K1
 try simp only [go_sem]
 refine awp_seq_k fun K2 hK2 => ?_
 refine awp_regionL (by rfl) ?_
 try simp only [go_sem]
 refine hK2 _ _ _ (awp_keep [3] ?_)
 try clear hK2 K2
 try simp only [go_sem]
 refine awp_seq_k fun K3 hK3 => ?_
 refine awp_regionL (by rfl) ?_
 try simp only [go_sem]
 repeat (refine Must.au ?_; try simp only [go_sem])
 refine hK3 _ _ _ (awp_keep [2] ?_)
 try clear hK3 K3
 try simp only [go_sem]
 refine awp_ret ?_
 try simp only [go_sem]
 try clear hK3 K3
 try clear hK2 K2
 try clear hK1 K1
 refine ret_p (by simp) (by rfl) ?_ (by rfl)
 (try simp (disch := omega) only [w_i64, w_u8, w_u16, w_u32, w_u64]); simp only [go_sem] <;> (simp [nextS, Int.fdiv_eq_ediv_of_nonneg, Bool.and_assoc])

set_option maxRecDepth 20000 in
set_option maxHeartbeats 8000000 in
theorem ref04_Next_ok (n : Int) (h0 : 0 ≤ n) (h1 : n < 4294967296) : ACX Go.Proofs.Tryd.prog G0 15 [.l (.int .u32 n)] [] [] (.l (.bool (nextS n))) [] [] := by
 refine acalls_intro Go.Proofs.Tryd.func15 rfl (by kernel_rfl) Go.Proofs.Tryd.ntmps15 Go.Proofs.Tryd.results15 (by simp) rfl rfl ?_
 try simp only [go_sem]
 have hd : (n.tdiv 16777216) = n / 16777216 := Int.tdiv_eq_ediv_of_nonneg h0
 refine awp_seq_k fun K1 hK1 => ?_
 refine awp_regionL (by rfl) ?_
 try simp only [go_sem]
 refine hK1 _ _ _ (awp_keep [0] ?_)
 try clear hK1 K1
 try simp only [go_sem]
 refine awp_seq_k fun K2 hK2 => ?_
 refine awp_regionL (by rfl) ?_
 try simp only [go_sem]
 try simp (disch := omega) only [w_i64, w_u8, w_u16, w_u32, w_u64]
 try simp only [hd]
 try simp (disch := omega) only [w_i64]
 refine hK2 _ _ _ (awp_keep [3] ?_)
 try clear hK2 K2
 try simp only [go_sem]
 refine awp_seq_k fun K3 hK3 => ?_
 refine awp_regionL (by rfl) ?_
 try simp only [go_sem]
 repeat (refine Must.au ?_; try simp only [go_sem])
 refine hK3 _ _ _ (awp_keep [2] ?_)
 try clear hK3 K3
 try simp only [go_sem]
 refine awp_ret ?_
 try simp only [go_sem]
 try clear hK3 K3
 try clear hK2 K2
 try clear hK1 K1
 refine ret_p (by simp) (by rfl) ?_ (by rfl)
 (try simp (disch := omega) only [w_i64, w_u8, w_u16, w_u32, w_u64]); simp only [go_sem] <;> (simp [nextS, Bool.and_assoc])

section
attribute [local go_sem] Attrs.cells zeroS segs u32s raws bl ul sgl rwl List.map_nil
set_option maxRecDepth 20000 in
set_option maxHeartbeats 8000000 in
theorem attrs_Zero_ok  : ACX Go.Proofs.Tryd.prog G0 17 [] [] [] (.agg zeroS.cells) [] [] := by
 refine acalls_intro Go.Proofs.Tryd.func17 rfl (by kernel_rfl) Go.Proofs.Tryd.ntmps17 Go.Proofs.Tryd.results17 (by simp) rfl rfl ?_
 try simp only [go_sem]
 refine awp_seq_k fun K1 hK1 => ?_
 refine awp_regionL (by rfl) ?_
 try simp only [go_sem]
 refine hK1 _ _ _ (awp_keep [0] ?_)
 try clear hK1 K1
 try simp only [go_sem]
 refine awp_seq_k fun K2 hK2 => ?_
 refine awp_regionL (by rfl) ?_
 try simp only [go_sem]
 refine hK2 _ _ _ (awp_keep [0] ?_)
 try clear hK2 K2
 try simp only [go_sem]
 refine awp_ret ?_
 try simp only [go_sem]
 try clear hK2 K2
 try clear hK1 K1
 refine ret_p (by simp) (by rfl) ?_ (by rfl)
 (try simp (disch := omega) only [w_i64, w_u8, w_u16, w_u32, w_u64]); simp only [go_sem] <;> (first | rfl | omega | trivial | (simp; done) | simp_all)
end

section
attribute [local go_sem] Attrs.cells zeroS segs u32s raws bl ul sgl rwl List.map_nil
set_option maxRecDepth 20000 in
set_option maxHeartbeats 8000000 in
theorem ref04_Zero_ok  : ACX Go.Proofs.Tryd.prog G0 18 [] [] [] (.agg zeroS.cells) [] [] := by
 refine acalls_intro Go.Proofs.Tryd.func18 rfl (by kernel_rfl) Go.Proofs.Tryd.ntmps18 Go.Proofs.Tryd.results18 (by simp) rfl rfl ?_
 try simp only [go_sem]
 refine awp_seq_k fun K1 hK1 => ?_
 refine awp_regionL (by rfl) ?_
 try simp only [go_sem]
 refine hK1 _ _ _ (awp_keep [0] ?_)
 try clear hK1 K1
 try simp only [go_sem]
 refine awp_seq_k fun K2 hK2 => ?_
 refine awp_regionL (by rfl) ?_
 try simp only [go_sem]
 refine hK2 _ _ _ (awp_keep [0] ?_)
 try clear hK2 K2
 try simp only [go_sem]
 refine awp_ret ?_
 try simp only [go_sem]
 try clear hK2 K2
 try clear hK1 K1
 refine ret_p (by simp) (by rfl) ?_ (by rfl)
 (try simp (disch := omega) only [w_i64, w_u8, w_u16, w_u32, w_u64]); simp only [go_sem] <;> (first | rfl | omega | trivial | (simp; done) | simp_all)
end

section
attribute [local go_sem] bytes
set_option maxRecDepth 20000 in
set_option maxHeartbeats 8000000 in
theorem ref01_Same_ok (a b : List Int) (ha : isB a) (hb : isB b) : ACX Go.Proofs.Tryd.prog G0 22 [.l (bytes a), .l (bytes b)] [] [] (.l (.bool (decide (a = b)))) [] [] := by
 refine acalls_intro Go.Proofs.Tryd.func22 rfl (by kernel_rfl) Go.Proofs.Tryd.ntmps22 Go.Proofs.Tryd.results22 (by simp) rfl rfl ?_
 try simp only [go_sem]
 refine awp_seq_k fun K1 hK1 => ?_
 refine awp_regionL (by rfl) ?_
 try simp only [go_sem]
 refine hK1 _ _ _ (awp_keep [0, 1] ?_)
 try clear hK1 K1
 try simp only [go_sem]
 refine awp_seq_k fun K2 hK2 => ?_
 refine awp_regionL (by rfl) ?_
 try simp only [go_sem]
 try simp (disch := omega) only [w_i64, w_u8, w_u16, w_u32, w_u64]
 refine Must.intro (isB_cells ha) ?_
 try simp only [go_sem]
 try simp (disch := omega) only [w_i64, w_u8, w_u16, w_u32, w_u64]
 refine Must.intro (isB_cells hb) ?_
 try simp only [go_sem]
 try simp (disch := omega) only [w_i64, w_u8, w_u16, w_u32, w_u64]
 refine hK2 _ _ _ (awp_keep [4] ?_)
 try clear hK2 K2
 try simp only [go_sem]
 refine awp_ret ?_
 try simp only [go_sem]
 try clear hK2 K2
 try clear hK1 K1
 refine ret_p (by simp) (by rfl) ?_ (by rfl)
 (try simp (disch := omega) only [w_i64, w_u8, w_u16, w_u32, w_u64]); simp only [go_sem] <;> (simp only [byteOf_bl])
end

set_option maxRecDepth 20000 in
set_option maxHeartbeats 8000000 in
theorem ref04_Flags_ok (k : Int) : ACX Go.Proofs.Tryd.prog G0 13 [.l (.int .i64 k)] [] [] (.l (.int .i64 (flagsS k))) [] [] := by
 refine acalls_intro Go.Proofs.Tryd.func13 rfl (by kernel_rfl) Go.Proofs.Tryd.ntmps13 Go.Proofs.Tryd.results13 (by simp) rfl rfl ?_
 try simp only [go_sem]
 refine awp_seq_k fun K1 hK1 => ?_
 refine awp_regionL (by rfl) ?_
 try simp only [go_sem]
 refine hK1 _ _ _ (awp_keep [0] ?_)
 try clear hK1 K1
 try simp only [go_sem]
 refine awp_seq_k fun K2 hK2 => ?_
 refine awp_seq_k fun K3 hK3 => ?_
 refine awp_regionL (by rfl) ?_
 try simp only [go_sem]
 refine hK3 _ _ _ (awp_keep [3] ?_)
 try clear hK3 K3
 try simp only [go_sem]
 refine awp_block ?_
 refine awp_joinE (α := Unit) (fun (_u : Unit) => True) (fun (_u : Unit) => [(4, .l (.bool (decide (k = 1 ∨ k = 2 ∨ k = 3 ∨ k = 5 ∨ k = 6))))]) (fun (_u : Unit) => []) (fun (_u : Unit) => []) [3] (fun K4 hK4 => ?_) ?_
 ·
  skip
  refine awp_seq_k fun K5 hK5 => ?_
  refine awp_regionL (by rfl) ?_
  try simp only [go_sem]
  refine hK5 _ _ _ (awp_keep [3, 4] ?_)
  try clear hK5 K5
  try simp only [go_sem]
  refine awp_cond (by rfl) (fun hc0 => ?_) (fun hc0 => ?_)
  ·
   skip
   try simp only [decide_eq_true_eq, decide_eq_false_iff_not, Bool.not_eq_true', Bool.not_eq_false', Bool.and_eq_true, Bool.or_eq_true, Bool.or_eq_false_iff, Bool.and_eq_false_imp] at hc0
   refine awp_skip ?_
   try simp only [go_sem]
   refine hK4 _ _ _ ⟨(), [], ?_, ?_⟩
   ·
    (try simp (disch := omega) only [w_i64, w_u8, w_u16, w_u32, w_u64]); simp only [Lss, go_sem]
    exact ⟨decide_eq_decide.2 (by omega), rfl⟩
    all_goals first | rfl | omega | trivial
   ·
    trivial
  ·
   skip
   try simp only [decide_eq_true_eq, decide_eq_false_iff_not, Bool.not_eq_true', Bool.not_eq_false', Bool.and_eq_true, Bool.or_eq_true, Bool.or_eq_false_iff, Bool.and_eq_false_imp] at hc0
   refine awp_seq_k fun K6 hK6 => ?_
   refine awp_regionL (by rfl) ?_
   try simp only [go_sem]
   refine hK6 _ _ _ (awp_keep [3, 4] ?_)
   try clear hK6 K6
   try simp only [go_sem]
   refine awp_cond (by rfl) (fun hc1 => ?_) (fun hc1 => ?_)
   ·
    skip
    try simp only [decide_eq_true_eq, decide_eq_false_iff_not, Bool.not_eq_true', Bool.not_eq_false', Bool.and_eq_true, Bool.or_eq_true, Bool.or_eq_false_iff, Bool.and_eq_false_imp] at hc1
    refine awp_skip ?_
    try simp only [go_sem]
    refine hK4 _ _ _ ⟨(), [], ?_, ?_⟩
    ·
     (try simp (disch := omega) only [w_i64, w_u8, w_u16, w_u32, w_u64]); simp only [Lss, go_sem]
     exact ⟨decide_eq_decide.2 (by omega), rfl⟩
     all_goals first | rfl | omega | trivial
    ·
     trivial
   ·
    skip
    try simp only [decide_eq_true_eq, decide_eq_false_iff_not, Bool.not_eq_true', Bool.not_eq_false', Bool.and_eq_true, Bool.or_eq_true, Bool.or_eq_false_iff, Bool.and_eq_false_imp] at hc1
    refine awp_seq_k fun K7 hK7 => ?_
    refine awp_regionL (by rfl) ?_
    try simp only [go_sem]
    refine hK7 _ _ _ (awp_keep [3, 4] ?_)
    try clear hK7 K7
    try simp only [go_sem]
    refine awp_cond (by rfl) (fun hc2 => ?_) (fun hc2 => ?_)
    ·
     skip
     try simp only [decide_eq_true_eq, decide_eq_false_iff_not, Bool.not_eq_true', Bool.not_eq_false', Bool.and_eq_true, Bool.or_eq_true, Bool.or_eq_false_iff, Bool.and_eq_false_imp] at hc2
     refine awp_skip ?_
     try simp only [go_sem]
     refine hK4 _ _ _ ⟨(), [], ?_, ?_⟩
     ·
      (try simp (disch := omega) only [w_i64, w_u8, w_u16, w_u32, w_u64]); simp only [Lss, go_sem]
      exact ⟨decide_eq_decide.2 (by omega), rfl⟩
      all_goals first | rfl | omega | trivial
     ·
      trivial
    ·
     skip
     try simp only [decide_eq_true_eq, decide_eq_false_iff_not, Bool.not_eq_true', Bool.not_eq_false', Bool.and_eq_true, Bool.or_eq_true, Bool.or_eq_false_iff, Bool.and_eq_false_imp] at hc2
     refine awp_seq_k fun K8 hK8 => ?_
     refine awp_regionL (by rfl) ?_
     try simp only [go_sem]
     refine hK8 _ _ _ (awp_keep [3, 4] ?_)
     try clear hK8 K8
     try simp only [go_sem]
     refine awp_cond (by rfl) (fun hc3 => ?_) (fun hc3 => ?_)
     ·
      skip
      try simp only [decide_eq_true_eq, decide_eq_false_iff_not, Bool.not_eq_true', Bool.not_eq_false', Bool.and_eq_true, Bool.or_eq_true, Bool.or_eq_false_iff, Bool.and_eq_false_imp] at hc3
      refine awp_skip ?_
      try simp only [go_sem]
      refine hK4 _ _ _ ⟨(), [], ?_, ?_⟩
      ·
       (try simp (disch := omega) only [w_i64, w_u8, w_u16, w_u32, w_u64]); simp only [Lss, go_sem]
       exact ⟨decide_eq_decide.2 (by omega), rfl⟩
       all_goals first | rfl | omega | trivial
      ·
       trivial
     ·
      skip
      try simp only [decide_eq_true_eq, decide_eq_false_iff_not, Bool.not_eq_true', Bool.not_eq_false', Bool.and_eq_true, Bool.or_eq_true, Bool.or_eq_false_iff, Bool.and_eq_false_imp] at hc3
      refine awp_regionL (by rfl) ?_
      try simp only [go_sem]
      refine hK4 _ _ _ ⟨(), [], ?_, ?_⟩
      ·
       (try simp (disch := omega) only [w_i64, w_u8, w_u16, w_u32, w_u64]); simp only [Lss, go_sem]
       exact ⟨decide_eq_decide.2 (by omega), rfl⟩
       all_goals first | rfl | omega | trivial
      ·
       trivial
 ·
  rintro _u hj
  try simp only [go_sem]
  refine awp_cond (by rfl) (fun hc4 => ?_) (fun hc4 => ?_)
  ·
   skip
   try simp only [decide_eq_true_eq, decide_eq_false_iff_not, Bool.not_eq_true', Bool.not_eq_false', Bool.and_eq_true, Bool.or_eq_true, Bool.or_eq_false_iff, Bool.and_eq_false_imp] at hc4
   refine awp_seq_k fun K9 hK9 => ?_
   refine awp_regionL (by rfl) ?_
   try simp only [go_sem]
   refine hK9 _ _ _ (awp_keep [2] ?_)
   try clear hK9 K9
   try simp only [go_sem]
   refine awp_ret ?_
   try simp only [go_sem]
   try clear hK9 K9
   try clear hK8 K8
   try clear hK7 K7
   try clear hK6 K6
   try clear hK5 K5
   try clear hK4 K4
   try clear hK3 K3
   try clear hK2 K2
   try clear hK1 K1
   refine ret_p (by simp) (by rfl) ?_ (by rfl)
   (try simp (disch := omega) only [w_i64, w_u8, w_u16, w_u32, w_u64]); simp only [go_sem] <;> (unfold flagsS; repeat' split; all_goals first | rfl | omega)
  ·
   skip
   try simp only [decide_eq_true_eq, decide_eq_false_iff_not, Bool.not_eq_true', Bool.not_eq_false', Bool.and_eq_true, Bool.or_eq_true, Bool.or_eq_false_iff, Bool.and_eq_false_imp] at hc4
   refine awp_seq_k fun K10 hK10 => ?_
   refine awp_regionL (by rfl) ?_
   try simp only [go_sem]
   refine hK10 _ _ _ (awp_keep [3, 10] ?_)
   try clear hK10 K10
   try simp only [go_sem]
   refine awp_cond (by rfl) (fun hc5 => ?_) (fun hc5 => ?_)
   ·
    skip
    try simp only [decide_eq_true_eq, decide_eq_false_iff_not, Bool.not_eq_true', Bool.not_eq_false', Bool.and_eq_true, Bool.or_eq_true, Bool.or_eq_false_iff, Bool.and_eq_false_imp] at hc5
    refine awp_seq_k fun K11 hK11 => ?_
    refine awp_regionL (by rfl) ?_
    try simp only [go_sem]
    refine hK11 _ _ _ (awp_keep [2] ?_)
    try clear hK11 K11
    try simp only [go_sem]
    refine awp_ret ?_
    try simp only [go_sem]
    try clear hK11 K11
    try clear hK10 K10
    try clear hK9 K9
    try clear hK8 K8
    try clear hK7 K7
    try clear hK6 K6
    try clear hK5 K5
    try clear hK4 K4
    try clear hK3 K3
    try clear hK2 K2
    try clear hK1 K1
    refine ret_p (by simp) (by rfl) ?_ (by rfl)
    (try simp (disch := omega) only [w_i64, w_u8, w_u16, w_u32, w_u64]); simp only [go_sem] <;> (unfold flagsS; repeat' split; all_goals first | rfl | omega)
   ·
    skip
    try simp only [decide_eq_true_eq, decide_eq_false_iff_not, Bool.not_eq_true', Bool.not_eq_false', Bool.and_eq_true, Bool.or_eq_true, Bool.or_eq_false_iff, Bool.and_eq_false_imp] at hc5
    refine awp_joinE (α := Unit) (fun (_u : Unit) => True) (fun (_u : Unit) => [(12, .l (.bool (decide (k = 7 ∨ k = 8 ∨ k = 17 ∨ k = 18))))]) (fun (_u : Unit) => []) (fun (_u : Unit) => []) [] (fun K12 hK12 => ?_) ?_
    ·
     skip
     refine awp_seq_k fun K13 hK13 => ?_
     refine awp_regionL (by rfl) ?_
     try simp only [go_sem]
     refine hK13 _ _ _ (awp_keep [3, 12] ?_)
     try clear hK13 K13
     try simp only [go_sem]
     refine awp_cond (by rfl) (fun hc6 => ?_) (fun hc6 => ?_)
     ·
      skip
      try simp only [decide_eq_true_eq, decide_eq_false_iff_not, Bool.not_eq_true', Bool.not_eq_false', Bool.and_eq_true, Bool.or_eq_true, Bool.or_eq_false_iff, Bool.and_eq_false_imp] at hc6
      refine awp_skip ?_
      try simp only [go_sem]
      refine hK12 _ _ _ ⟨(), [], ?_, ?_⟩
      ·
       (try simp (disch := omega) only [w_i64, w_u8, w_u16, w_u32, w_u64]); simp only [Lss, go_sem]
       exact ⟨decide_eq_decide.2 (by omega), rfl⟩
       all_goals first | rfl | omega | trivial
      ·
       trivial
     ·
      skip
      try simp only [decide_eq_true_eq, decide_eq_false_iff_not, Bool.not_eq_true', Bool.not_eq_false', Bool.and_eq_true, Bool.or_eq_true, Bool.or_eq_false_iff, Bool.and_eq_false_imp] at hc6
      refine awp_seq_k fun K14 hK14 => ?_
      refine awp_regionL (by rfl) ?_
      try simp only [go_sem]
      refine hK14 _ _ _ (awp_keep [3, 12] ?_)
      try clear hK14 K14
      try simp only [go_sem]
      refine awp_cond (by rfl) (fun hc7 => ?_) (fun hc7 => ?_)
      ·
       skip
       try simp only [decide_eq_true_eq, decide_eq_false_iff_not, Bool.not_eq_true', Bool.not_eq_false', Bool.and_eq_true, Bool.or_eq_true, Bool.or_eq_false_iff, Bool.and_eq_false_imp] at hc7
       refine awp_skip ?_
       try simp only [go_sem]
       refine hK12 _ _ _ ⟨(), [], ?_, ?_⟩
       ·
        (try simp (disch := omega) only [w_i64, w_u8, w_u16, w_u32, w_u64]); simp only [Lss, go_sem]
        exact ⟨decide_eq_decide.2 (by omega), rfl⟩
        all_goals first | rfl | omega | trivial
       ·
        trivial
      ·
       skip
       try simp only [decide_eq_true_eq, decide_eq_false_iff_not, Bool.not_eq_true', Bool.not_eq_false', Bool.and_eq_true, Bool.or_eq_true, Bool.or_eq_false_iff, Bool.and_eq_false_imp] at hc7
       refine awp_seq_k fun K15 hK15 => ?_
       refine awp_regionL (by rfl) ?_
       try simp only [go_sem]
       refine hK15 _ _ _ (awp_keep [3, 12] ?_)
       try clear hK15 K15
       try simp only [go_sem]
       refine awp_cond (by rfl) (fun hc8 => ?_) (fun hc8 => ?_)
       ·
        skip
        try simp only [decide_eq_true_eq, decide_eq_false_iff_not, Bool.not_eq_true', Bool.not_eq_false', Bool.and_eq_true, Bool.or_eq_true, Bool.or_eq_false_iff, Bool.and_eq_false_imp] at hc8
        refine awp_skip ?_
        try simp only [go_sem]
        refine hK12 _ _ _ ⟨(), [], ?_, ?_⟩
        ·
         (try simp (disch := omega) only [w_i64, w_u8, w_u16, w_u32, w_u64]); simp only [Lss, go_sem]
         exact ⟨decide_eq_decide.2 (by omega), rfl⟩
         all_goals first | rfl | omega | trivial
        ·
         trivial
       ·
        skip
        try simp only [decide_eq_true_eq, decide_eq_false_iff_not, Bool.not_eq_true', Bool.not_eq_false', Bool.and_eq_true, Bool.or_eq_true, Bool.or_eq_false_iff, Bool.and_eq_false_imp] at hc8
        refine awp_regionL (by rfl) ?_
        try simp only [go_sem]
        refine hK12 _ _ _ ⟨(), [], ?_, ?_⟩
        ·
         (try simp (disch := omega) only [w_i64, w_u8, w_u16, w_u32, w_u64]); simp only [Lss, go_sem]
         exact ⟨decide_eq_decide.2 (by omega), rfl⟩
         all_goals first | rfl | omega | trivial
        ·
         trivial
    ·
     rintro _u hj
     try simp only [go_sem]
     refine awp_cond (by rfl) (fun hc9 => ?_) (fun hc9 => ?_)
     ·
      skip
      try simp only [decide_eq_true_eq, decide_eq_false_iff_not, Bool.not_eq_true', Bool.not_eq_false', Bool.and_eq_true, Bool.or_eq_true, Bool.or_eq_false_iff, Bool.and_eq_false_imp] at hc9
      refine awp_seq_k fun K16 hK16 => ?_
      refine awp_regionL (by rfl) ?_
      try simp only [go_sem]
      refine hK16 _ _ _ (awp_keep [2] ?_)
      try clear hK16 K16
      try simp only [go_sem]
      refine awp_ret ?_
      try simp only [go_sem]
      try clear hK16 K16
      try clear hK15 K15
      try clear hK14 K14
      try clear hK13 K13
      try clear hK12 K12
      try clear hK11 K11
      try clear hK10 K10
      try clear hK9 K9
      try clear hK8 K8
      try clear hK7 K7
      try clear hK6 K6
      try clear hK5 K5
      try clear hK4 K4
      try clear hK3 K3
      try clear hK2 K2
      try clear hK1 K1
      refine ret_p (by simp) (by rfl) ?_ (by rfl)
      (try simp (disch := omega) only [w_i64, w_u8, w_u16, w_u32, w_u64]); simp only [go_sem] <;> (unfold flagsS; repeat' split; all_goals first | rfl | omega)
     ·
      skip
      try simp only [decide_eq_true_eq, decide_eq_false_iff_not, Bool.not_eq_true', Bool.not_eq_false', Bool.and_eq_true, Bool.or_eq_true, Bool.or_eq_false_iff, Bool.and_eq_false_imp] at hc9
      refine awp_skip ?_
      try simp only [go_sem]
      refine hK2 _ _ _ (awp_keep [] ?_)
      try clear hK2 K2
      try simp only [go_sem]
      refine awp_seq_k fun K17 hK17 => ?_
      refine awp_regionL (by rfl) ?_
      try simp only [go_sem]
      refine hK17 _ _ _ (awp_keep [2] ?_)
      try clear hK17 K17
      try simp only [go_sem]
      refine awp_ret ?_
      try simp only [go_sem]
      try clear hK17 K17
      try clear hK16 K16
      try clear hK15 K15
      try clear hK14 K14
      try clear hK13 K13
      try clear hK12 K12
      try clear hK11 K11
      try clear hK10 K10
      try clear hK9 K9
      try clear hK8 K8
      try clear hK7 K7
      try clear hK6 K6
      try clear hK5 K5
      try clear hK4 K4
      try clear hK3 K3
      try clear hK2 K2
      try clear hK1 K1
      refine ret_p (by simp) (by rfl) ?_ (by rfl)
      (try simp (disch := omega) only [w_i64, w_u8, w_u16, w_u32, w_u64]); simp only [go_sem] <;> (unfold flagsS; repeat' split; all_goals first | rfl | omega)

end Go.Abs
