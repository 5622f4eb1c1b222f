/-
  READING ATTRIBUTES, 1: copies, whether a number is in a list, faults, the next attribute.
-/
import Derived.Test.YtajeoodipplmlaaDoorT16
set_option linter.all false
namespace Go.Abs
open Go Go.Proofs
/-- A list of integers as elements. -/
def il (l : List Int) : List (List LV) := l.map fun n => [.int .i64 n]
@[simp, go_sem] theorem il_length (l : List Int) : (il l).length = l.length := by simp [il]
def ints (l : List Int) : LV := .slice .shared 1 (il l)
def idxI (x : Int) : List Int → Int
  | [] => -1
  | n :: l => if x = n then 0 else if idxI x l < 0 then -1 else idxI x l + 1
theorem idxI_at (x : Int) : ∀ (l : List Int) (k : Nat) (h : k < l.length), (∀ n ∈ l.take k, ¬ x = n) → x = l[k] → idxI x l = k
  | [], k, h, _, _ => by simp at h
  | n :: l, 0, _, _, hk => by simp only [List.getElem_cons_zero] at hk; simp [idxI, hk]
  | n :: l, k + 1, h, hn, hk => by
    have ih := idxI_at x l k (by simpa using h) (fun m hm => hn m (by simp [hm])) (by simpa using hk)
    have h0 := hn n (by simp)
    simp only [idxI, if_neg h0, ih]
    rw [if_neg (by omega)]; omega
theorem idxI_none (x : Int) : ∀ (l : List Int), (∀ n ∈ l, ¬ x = n) → idxI x l = -1
  | [], _ => rfl
  | n :: l, h => by
    have ih := idxI_none x l fun m hm => h m (List.mem_cons_of_mem _ hm)
    have h0 := h n List.mem_cons_self
    simp [idxI, h0, ih]
theorem idxI_mem (x : Int) : ∀ (l : List Int), decide (0 ≤ idxI x l) = decide (x ∈ l)
  | [] => rfl
  | n :: l => by
    have ih := idxI_mem x l
    by_cases h0 : x = n
    · simp [idxI, h0]
    · have e : decide (x ∈ n :: l) = decide (x ∈ l) := by simp [h0]
      rw [e, ← ih]
      by_cases h1 : idxI x l < 0
      · simp only [idxI, if_neg h0, if_pos h1]
        rw [decide_eq_false (by omega), decide_eq_false (by omega)]
      · simp only [idxI, if_neg h0, if_neg h1]
        rw [decide_eq_true (by omega), decide_eq_true (by omega)]
theorem take_ne_succ {x : Int} {l : List Int} {k : Nat} (hk : k < l.length) (h : ∀ n ∈ l.take k, ¬ x = n) (h2 : ¬ x = l[k]) : ∀ n ∈ l.take (k + 1), ¬ x = n := by
  intro n hn
  rw [List.take_succ_eq_append_getElem hk, List.mem_append, List.mem_singleton] at hn
  rcases hn with hn | rfl
  · exact h n hn
  · exact h2
/-- An attribute as it came. -/
structure One where
  flags : Int
  kind : Int
  all : List Int
  value : List Int
def One.cells (x : One) : List LV := [.int .i64 x.flags, .int .i64 x.kind, bytes x.all, bytes x.value]
def spF (b : List Int) : Int := IntKind.i64.wrap (Rd.num ⟨b, false⟩ 1)
def spR1 (b : List Int) : Rd := (Rd.take ⟨b, false⟩ 1).2
def spK (b : List Int) : Int := IntKind.i64.wrap ((spR1 b).num 1)
def spR2 (b : List Int) : Rd := ((spR1 b).take 1).2
def spX (b : List Int) : Prop := ¬ bits .and .i64 (spF b) 16 = 0
instance (b : List Int) : Decidable (spX b) := inferInstanceAs (Decidable (¬ _))
def spN (b : List Int) : Int := if spX b then IntKind.i64.wrap ((spR2 b).num 2) else IntKind.i64.wrap ((spR2 b).num 1)
def spR3 (b : List Int) : Rd := if spX b then ((spR2 b).take 2).2 else ((spR2 b).take 1).2
def spV (b : List Int) : List Int := ((spR3 b).take (spN b)).1
def spR4 (b : List Int) : Rd := ((spR3 b).take (spN b)).2
def splitO (b : List Int) : One := if (spR4 b).short then ⟨0, 0, [], []⟩ else ⟨spF b, spK b, b.take (b.length - (spR4 b).rest.length), spV b⟩
def splitB (b : List Int) : List Int := if (spR4 b).short then [] else b.drop (b.length - (spR4 b).rest.length)
theorem spR1_le (b : List Int) : (spR1 b).rest.length ≤ b.length := rd_take_rest ⟨b, false⟩ 1
theorem spR2_le (b : List Int) : (spR2 b).rest.length ≤ b.length := Nat.le_trans (rd_take_rest (spR1 b) 1) (spR1_le b)
theorem spR3_le (b : List Int) : (spR3 b).rest.length ≤ b.length := by
  unfold spR3; split
  · exact Nat.le_trans (rd_take_rest (spR2 b) 2) (spR2_le b)
  · exact Nat.le_trans (rd_take_rest (spR2 b) 1) (spR2_le b)
theorem spR4_le (b : List Int) : (spR4 b).rest.length ≤ b.length := Nat.le_trans (rd_take_rest (spR3 b) (spN b)) (spR3_le b)

section
attribute [local go_sem] bytes
set_option maxRecDepth 20000 in
set_option maxHeartbeats 8000000 in
theorem Clone_u8_ok (b : List Int) (hb : b.length ≤ 1000000000) : ACX Go.Proofs.Tryd.prog G0 49 [.l (bytes b)] [] [] (.l (bytes b)) [] [] := by
 refine acalls_intro Go.Proofs.Tryd.func49 rfl (by kernel_rfl) Go.Proofs.Tryd.ntmps49 Go.Proofs.Tryd.results49 (by simp) rfl rfl ?_
 try simp only [go_sem]
 refine awp_seq_k fun K1 hK1 => ?_
 refine awp_regionL (by rfl) ?_
 try simp only [go_sem]
 refine hK1 _ _ _ (awp_keep [0] ?_)
 try clear hK1 K1
 try simp only [go_sem]
 refine awp_seq_k fun K2 hK2 => ?_
 refine awp_seq_k fun K3 hK3 => ?_
 refine awp_regionL (by rfl) ?_
 try simp only [go_sem]
 refine ⟨fun hnil => ?_, ?_⟩
 ·
  skip
  obtain rfl : b = [] := by simpa [bl] using hnil
  refine hK3 _ _ _ (awp_keep [0, 4] ?_)
  try clear hK3 K3
  try simp only [go_sem]
  refine awp_cond (by rfl) (fun hc0 => ?_) (fun hc0 => ?_)
  ·
   skip
   try simp only [decide_eq_true_eq, decide_eq_false_iff_not, Bool.not_eq_true', Bool.not_eq_false', Bool.and_eq_true, Bool.or_eq_true, Bool.or_eq_false_iff, Bool.and_eq_false_imp] at hc0
   refine awp_seq_k fun K4 hK4 => ?_
   refine awp_regionL (by rfl) ?_
   try simp only [go_sem]
   refine hK4 _ _ _ (awp_keep [2] ?_)
   try clear hK4 K4
   try simp only [go_sem]
   refine awp_ret ?_
   try simp only [go_sem]
   try clear hK4 K4
   try clear hK3 K3
   try clear hK2 K2
   try clear hK1 K1
   refine ret_p (by simp) (by rfl) ?_ (by rfl)
   (try simp (disch := omega) only [w_i64, w_u8, w_u16, w_u32, w_u64]); simp only [go_sem] <;> (first | rfl | omega | trivial | (simp; done) | simp_all)
  ·
   skip
   try simp only [decide_eq_true_eq, decide_eq_false_iff_not, Bool.not_eq_true', Bool.not_eq_false', Bool.and_eq_true, Bool.or_eq_true, Bool.or_eq_false_iff, Bool.and_eq_false_imp] at hc0
   refine awp_skip ?_
   try simp only [go_sem]
   refine hK2 _ _ _ (awp_keep [0] ?_)
   try clear hK2 K2
   try simp only [go_sem]
   refine awp_seq_k fun K5 hK5 => ?_
   refine awp_regionL (by rfl) ?_
   try simp only [go_sem]
   refine app_new rfl rfl (.inl rfl) (by decide) tby5 (by (try simp only [go_sem, List.length_append, List.length_map, bl_length]); all_goals (first | omega | (simp; done))) (by (try simp only [go_sem, List.length_append, List.length_map, bl_length]); all_goals (first | omega | (simp; done))) ?_
   try simp only [go_sem]
   refine hK5 _ _ _ (awp_keep [2] ?_)
   try clear hK5 K5
   try simp only [go_sem]
   refine awp_ret ?_
   try simp only [go_sem]
   try clear hK5 K5
   try clear hK4 K4
   try clear hK3 K3
   try clear hK2 K2
   try clear hK1 K1
   refine ret_p (by simp) (by rfl) ?_ (by rfl)
   (try simp (disch := omega) only [w_i64, w_u8, w_u16, w_u32, w_u64]); simp only [go_sem] <;> (first | rfl | omega | trivial | (simp; done) | simp_all)
 ·
  skip
  refine hK3 _ _ _ (awp_keep [0, 4] ?_)
  try clear hK3 K3
  try simp only [go_sem]
  refine awp_cond (by rfl) (fun hc0 => ?_) (fun hc0 => ?_)
  ·
   skip
   try simp only [decide_eq_true_eq, decide_eq_false_iff_not, Bool.not_eq_true', Bool.not_eq_false', Bool.and_eq_true, Bool.or_eq_true, Bool.or_eq_false_iff, Bool.and_eq_false_imp] at hc0
   refine awp_seq_k fun K6 hK6 => ?_
   refine awp_regionL (by rfl) ?_
   try simp only [go_sem]
   refine hK6 _ _ _ (awp_keep [2] ?_)
   try clear hK6 K6
   try simp only [go_sem]
   refine awp_ret ?_
   try simp only [go_sem]
   try clear hK6 K6
   try clear hK5 K5
   try clear hK4 K4
   try clear hK3 K3
   try clear hK2 K2
   try clear hK1 K1
   refine ret_p (by simp) (by rfl) ?_ (by rfl)
   (try simp (disch := omega) only [w_i64, w_u8, w_u16, w_u32, w_u64]); simp only [go_sem] <;> (first | rfl | omega | trivial | (simp; done) | simp_all)
  ·
   skip
   try simp only [decide_eq_true_eq, decide_eq_false_iff_not, Bool.not_eq_true', Bool.not_eq_false', Bool.and_eq_true, Bool.or_eq_true, Bool.or_eq_false_iff, Bool.and_eq_false_imp] at hc0
   refine awp_skip ?_
   try simp only [go_sem]
   refine hK2 _ _ _ (awp_keep [0] ?_)
   try clear hK2 K2
   try simp only [go_sem]
   refine awp_seq_k fun K7 hK7 => ?_
   refine awp_regionL (by rfl) ?_
   try simp only [go_sem]
   refine app_new rfl rfl (.inl rfl) (by decide) tby5 (by (try simp only [go_sem, List.length_append, List.length_map, bl_length]); all_goals (first | omega | (simp; done))) (by (try simp only [go_sem, List.length_append, List.length_map, bl_length]); all_goals (first | omega | (simp; done))) ?_
   try simp only [go_sem]
   refine hK7 _ _ _ (awp_keep [2] ?_)
   try clear hK7 K7
   try simp only [go_sem]
   refine awp_ret ?_
   try simp only [go_sem]
   try clear hK7 K7
   try clear hK6 K6
   try clear hK5 K5
   try clear hK4 K4
   try clear hK3 K3
   try clear hK2 K2
   try clear hK1 K1
   refine ret_p (by simp) (by rfl) ?_ (by rfl)
   (try simp (disch := omega) only [w_i64, w_u8, w_u16, w_u32, w_u64]); simp only [go_sem] <;> (first | rfl | omega | trivial | (simp; done) | simp_all)
end

section
attribute [local go_sem] u32s
set_option maxRecDepth 20000 in
set_option maxHeartbeats 8000000 in
theorem Clone_u32_ok (b : List Int) (hb : b.length ≤ 1000000000) : ACX Go.Proofs.Tryd.prog G0 91 [.l (u32s b)] [] [] (.l (u32s b)) [] [] := by
 refine acalls_intro Go.Proofs.Tryd.func91 rfl (by kernel_rfl) Go.Proofs.Tryd.ntmps91 Go.Proofs.Tryd.results91 (by simp) rfl rfl ?_
 try simp only [go_sem]
 refine awp_seq_k fun K1 hK1 => ?_
 refine awp_regionL (by rfl) ?_
 try simp only [go_sem]
 refine hK1 _ _ _ (awp_keep [0] ?_)
 try clear hK1 K1
 try simp only [go_sem]
 refine awp_seq_k fun K2 hK2 => ?_
 refine awp_seq_k fun K3 hK3 => ?_
 refine awp_regionL (by rfl) ?_
 try simp only [go_sem]
 refine ⟨fun hnil => ?_, ?_⟩
 ·
  skip
  obtain rfl : b = [] := by simpa [ul] using hnil
  refine hK3 _ _ _ (awp_keep [0, 4] ?_)
  try clear hK3 K3
  try simp only [go_sem]
  refine awp_cond (by rfl) (fun hc0 => ?_) (fun hc0 => ?_)
  ·
   skip
   try simp only [decide_eq_true_eq, decide_eq_false_iff_not, Bool.not_eq_true', Bool.not_eq_false', Bool.and_eq_true, Bool.or_eq_true, Bool.or_eq_false_iff, Bool.and_eq_false_imp] at hc0
   refine awp_seq_k fun K4 hK4 => ?_
   refine awp_regionL (by rfl) ?_
   try simp only [go_sem]
   refine hK4 _ _ _ (awp_keep [2] ?_)
   try clear hK4 K4
   try simp only [go_sem]
   refine awp_ret ?_
   try simp only [go_sem]
   try clear hK4 K4
   try clear hK3 K3
   try clear hK2 K2
   try clear hK1 K1
   refine ret_p (by simp) (by rfl) ?_ (by rfl)
   (try simp (disch := omega) only [w_i64, w_u8, w_u16, w_u32, w_u64]); simp only [go_sem] <;> (first | rfl | omega | trivial | (simp; done) | simp_all)
  ·
   skip
   try simp only [decide_eq_true_eq, decide_eq_false_iff_not, Bool.not_eq_true', Bool.not_eq_false', Bool.and_eq_true, Bool.or_eq_true, Bool.or_eq_false_iff, Bool.and_eq_false_imp] at hc0
   refine awp_skip ?_
   try simp only [go_sem]
   refine hK2 _ _ _ (awp_keep [0] ?_)
   try clear hK2 K2
   try simp only [go_sem]
   refine awp_seq_k fun K5 hK5 => ?_
   refine awp_regionL (by rfl) ?_
   try simp only [go_sem]
   refine app_new rfl rfl (.inl rfl) (by decide) tby23 (by (try simp only [go_sem, List.length_append, List.length_map, bl_length]); all_goals (first | omega | (simp; done))) (by (try simp only [go_sem, List.length_append, List.length_map, bl_length]); all_goals (first | omega | (simp; done))) ?_
   try simp only [go_sem]
   refine hK5 _ _ _ (awp_keep [2] ?_)
   try clear hK5 K5
   try simp only [go_sem]
   refine awp_ret ?_
   try simp only [go_sem]
   try clear hK5 K5
   try clear hK4 K4
   try clear hK3 K3
   try clear hK2 K2
   try clear hK1 K1
   refine ret_p (by simp) (by rfl) ?_ (by rfl)
   (try simp (disch := omega) only [w_i64, w_u8, w_u16, w_u32, w_u64]); simp only [go_sem] <;> (first | rfl | omega | trivial | (simp; done) | simp_all)
 ·
  skip
  refine hK3 _ _ _ (awp_keep [0, 4] ?_)
  try clear hK3 K3
  try simp only [go_sem]
  refine awp_cond (by rfl) (fun hc0 => ?_) (fun hc0 => ?_)
  ·
   skip
   try simp only [decide_eq_true_eq, decide_eq_false_iff_not, Bool.not_eq_true', Bool.not_eq_false', Bool.and_eq_true, Bool.or_eq_true, Bool.or_eq_false_iff, Bool.and_eq_false_imp] at hc0
   refine awp_seq_k fun K6 hK6 => ?_
   refine awp_regionL (by rfl) ?_
   try simp only [go_sem]
   refine hK6 _ _ _ (awp_keep [2] ?_)
   try clear hK6 K6
   try simp only [go_sem]
   refine awp_ret ?_
   try simp only [go_sem]
   try clear hK6 K6
   try clear hK5 K5
   try clear hK4 K4
   try clear hK3 K3
   try clear hK2 K2
   try clear hK1 K1
   refine ret_p (by simp) (by rfl) ?_ (by rfl)
   (try simp (disch := omega) only [w_i64, w_u8, w_u16, w_u32, w_u64]); simp only [go_sem] <;> (first | rfl | omega | trivial | (simp; done) | simp_all)
  ·
   skip
   try simp only [decide_eq_true_eq, decide_eq_false_iff_not, Bool.not_eq_true', Bool.not_eq_false', Bool.and_eq_true, Bool.or_eq_true, Bool.or_eq_false_iff, Bool.and_eq_false_imp] at hc0
   refine awp_skip ?_
   try simp only [go_sem]
   refine hK2 _ _ _ (awp_keep [0] ?_)
   try clear hK2 K2
   try simp only [go_sem]
   refine awp_seq_k fun K7 hK7 => ?_
   refine awp_regionL (by rfl) ?_
   try simp only [go_sem]
   refine app_new rfl rfl (.inl rfl) (by decide) tby23 (by (try simp only [go_sem, List.length_append, List.length_map, bl_length]); all_goals (first | omega | (simp; done))) (by (try simp only [go_sem, List.length_append, List.length_map, bl_length]); all_goals (first | omega | (simp; done))) ?_
   try simp only [go_sem]
   refine hK7 _ _ _ (awp_keep [2] ?_)
   try clear hK7 K7
   try simp only [go_sem]
   refine awp_ret ?_
   try simp only [go_sem]
   try clear hK7 K7
   try clear hK6 K6
   try clear hK5 K5
   try clear hK4 K4
   try clear hK3 K3
   try clear hK2 K2
   try clear hK1 K1
   refine ret_p (by simp) (by rfl) ?_ (by rfl)
   (try simp (disch := omega) only [w_i64, w_u8, w_u16, w_u32, w_u64]); simp only [go_sem] <;> (first | rfl | omega | trivial | (simp; done) | simp_all)
end

section
attribute [local go_sem] ints
set_option maxRecDepth 20000 in
set_option maxHeartbeats 8000000 in
theorem Index_int_ok (l : List Int) (x : Int) : ACX Go.Proofs.Tryd.prog G0 70 [.l (ints l), .l (.int .i64 x)] [] [] (.l (.int .i64 (idxI x l))) [] [] := by
 refine acalls_intro Go.Proofs.Tryd.func70 rfl (by kernel_rfl) Go.Proofs.Tryd.ntmps70 Go.Proofs.Tryd.results70 (by simp) rfl rfl ?_
 try simp only [go_sem]
 refine awp_len 0 rfl fun hlen => ?_
 simp only [il_length] at hlen
 refine awp_seq_k fun K1 hK1 => ?_
 refine awp_regionL (by rfl) ?_
 try simp only [go_sem]
 refine hK1 _ _ _ (awp_keep [0, 1] ?_)
 try clear hK1 K1
 try simp only [go_sem]
 refine awp_seq_k fun K2 hK2 => ?_
 refine awp_seq_k fun K3 hK3 => ?_
 refine awp_regionL (by rfl) ?_
 try simp only [go_sem]
 refine hK3 _ _ _ (awp_keep [0, 1, 7, 8] ?_)
 try clear hK3 K3
 try simp only [go_sem]
 refine awp_block ?_
 refine awp_loopE (α := (Nat)) (fun (k : (Nat)) => k ≤ l.length ∧ ∀ n ∈ l.take k, ¬ x = n) (fun (k : (Nat)) => l.length - k) (fun (k : (Nat)) => [(8, .l (.int .i64 (k : Int)))]) (fun (k : (Nat)) => []) (fun (k : (Nat)) => []) [0, 1, 7] 0 [] ?_ ?_ ?_
 ·
  simp only [Lss, go_sem]
  (repeat' apply And.intro) <;> first | rfl | omega | trivial | (simp; done)
 ·
  exact ⟨by omega, by simp⟩
 rintro k ⟨hk, hno⟩ K4 hK4
 try simp only [go_sem]
 refine awp_seq_k fun K5 hK5 => ?_
 refine awp_regionL (by rfl) ?_
 try simp only [go_sem]
 refine hK5 _ _ _ (awp_keep [0, 1, 7, 8, 9] ?_)
 try clear hK5 K5
 try simp only [go_sem]
 refine awp_seq_k fun K6 hK6 => ?_
 refine awp_cond (by rfl) (fun hc0 => ?_) (fun hc0 => ?_)
 ·
  skip
  try simp only [decide_eq_true_eq, decide_eq_false_iff_not, Bool.not_eq_true', Bool.not_eq_false', Bool.and_eq_true, Bool.or_eq_true, Bool.or_eq_false_iff, Bool.and_eq_false_imp] at hc0
  have hk2 : k < l.length := by omega
  refine awp_skip ?_
  try simp only [go_sem]
  refine hK6 _ _ _ (awp_keep [0, 1, 7, 8] ?_)
  try clear hK6 K6
  try simp only [go_sem]
  refine awp_seq_k fun K7 hK7 => ?_
  refine awp_block ?_
  refine awp_seq_k fun K8 hK8 => ?_
  refine awp_regionL (by rfl) ?_
  try simp only [go_sem]
  refine hK8 _ _ _ (awp_keep [0, 1, 5, 7, 8] ?_)
  try clear hK8 K8
  try simp only [go_sem]
  refine awp_seq_k fun K9 hK9 => ?_
  refine awp_regionL (by rfl) ?_
  try simp only [go_sem]
  refine ix_map k rfl (by omega) ?_
  try simp only [go_sem]
  refine hK9 _ _ _ (awp_keep [0, 1, 5, 7, 8, 16] ?_)
  try clear hK9 K9
  try simp only [go_sem]
  refine awp_cond (by rfl) (fun hc1 => ?_) (fun hc1 => ?_)
  ·
   skip
   try simp only [decide_eq_true_eq, decide_eq_false_iff_not, Bool.not_eq_true', Bool.not_eq_false', Bool.and_eq_true, Bool.or_eq_true, Bool.or_eq_false_iff, Bool.and_eq_false_imp] at hc1
   refine awp_seq_k fun K10 hK10 => ?_
   refine awp_regionL (by rfl) ?_
   try simp only [go_sem]
   refine hK10 _ _ _ (awp_keep [4] ?_)
   try clear hK10 K10
   try simp only [go_sem]
   refine awp_ret ?_
   try simp only [go_sem]
   try clear hK10 K10
   try clear hK9 K9
   try clear hK8 K8
   try clear hK7 K7
   try clear hK6 K6
   try clear hK5 K5
   try clear hK4 K4
   try clear hK3 K3
   try clear hK2 K2
   try clear hK1 K1
   refine ret_p (by simp) (by rfl) ?_ (by rfl)
   (try simp (disch := omega) only [w_i64, w_u8, w_u16, w_u32, w_u64]); simp only [go_sem] <;> (exact (idxI_at x l k hk2 hno hc1).symm)
  ·
   skip
   try simp only [decide_eq_true_eq, decide_eq_false_iff_not, Bool.not_eq_true', Bool.not_eq_false', Bool.and_eq_true, Bool.or_eq_true, Bool.or_eq_false_iff, Bool.and_eq_false_imp] at hc1
   refine awp_skip ?_
   try simp only [go_sem]
   refine hK7 _ _ _ (awp_keep [0, 1, 7, 8] ?_)
   try clear hK7 K7
   try simp only [go_sem]
   refine awp_regionL (by rfl) ?_
   try simp only [go_sem]
   try simp (disch := omega) only [w_i64, w_u8, w_u16, w_u32, w_u64]
   refine hK4 _ _ _ ⟨k + 1, [], ?_, ?_⟩
   ·
    (try simp (disch := omega) only [w_i64, w_u8, w_u16, w_u32, w_u64]); simp only [Lss, go_sem]
    (repeat' apply And.intro) <;> first | rfl | omega | trivial | (simp; done)
   ·
    exact ⟨⟨by omega, take_ne_succ hk2 hno hc1⟩, by omega⟩
 ·
  skip
  try simp only [decide_eq_true_eq, decide_eq_false_iff_not, Bool.not_eq_true', Bool.not_eq_false', Bool.and_eq_true, Bool.or_eq_true, Bool.or_eq_false_iff, Bool.and_eq_false_imp] at hc0
  obtain rfl : k = l.length := by omega
  simp only [List.take_length] at hno
  refine awp_exit ?_
  try simp only [go_sem]
  refine hK2 _ _ _ (awp_keep [] ?_)
  try clear hK2 K2
  try simp only [go_sem]
  refine awp_seq_k fun K11 hK11 => ?_
  refine awp_regionL (by rfl) ?_
  try simp only [go_sem]
  refine hK11 _ _ _ (awp_keep [4] ?_)
  try clear hK11 K11
  try simp only [go_sem]
  refine awp_ret ?_
  try simp only [go_sem]
  try clear hK11 K11
  try clear hK10 K10
  try clear hK9 K9
  try clear hK8 K8
  try clear hK7 K7
  try clear hK6 K6
  try clear hK5 K5
  try clear hK4 K4
  try clear hK3 K3
  try clear hK2 K2
  try clear hK1 K1
  refine ret_p (by simp) (by rfl) ?_ (by rfl)
  (try simp (disch := omega) only [w_i64, w_u8, w_u16, w_u32, w_u64]); simp only [go_sem] <;> (exact (idxI_none x l hno).symm)
end

section
attribute [local go_sem] ints
set_option maxRecDepth 20000 in
set_option maxHeartbeats 8000000 in
theorem Contains_int_ok (l : List Int) (x : Int) : ACX Go.Proofs.Tryd.prog G0 51 [.l (ints l), .l (.int .i64 x)] [] [] (.l (.bool (decide (x ∈ l)))) [] [] := by
 refine acalls_intro Go.Proofs.Tryd.func51 rfl (by kernel_rfl) Go.Proofs.Tryd.ntmps51 Go.Proofs.Tryd.results51 (by simp) rfl rfl ?_
 try simp only [go_sem]
 refine awp_seq_k fun K1 hK1 => ?_
 refine awp_regionL (by rfl) ?_
 try simp only [go_sem]
 refine hK1 _ _ _ (awp_keep [0, 1] ?_)
 try clear hK1 K1
 try simp only [go_sem]
 refine awp_seq_k fun K2 hK2 => ?_
 refine awp_regionL (by rfl) ?_
 try simp only [go_sem]
 refine acall_pa (Index_int_ok l x) ?_
 try simp only [go_sem]
 refine hK2 _ _ _ (awp_keep [4] ?_)
 try clear hK2 K2
 try simp only [go_sem]
 refine awp_ret ?_
 try simp only [go_sem]
 try clear hK2 K2
 try clear hK1 K1
 refine ret_p (by simp) (by rfl) ?_ (by rfl)
 (try simp (disch := omega) only [w_i64, w_u8, w_u16, w_u32, w_u64]); simp only [go_sem] <;> (exact idxI_mem x l)
end

/-- A fault. -/
structure Flt where
  code : Int
  sub : Int
  data : List Int
def Flt.cells (f : Flt) : List LV := [.int .i64 f.code, .int .i64 f.sub, bytes f.data]

section
attribute [local go_sem] bytes Flt.cells
set_option maxRecDepth 20000 in
set_option maxHeartbeats 8000000 in
theorem attrs_fault_ok (s : Int) (d : List Int) : ACX Go.Proofs.Tryd.prog G0 52 [.l (.int .i64 s), .l (bytes d)] [] [] (.agg (Flt.cells ⟨3, s, d⟩)) [] [] := by
 refine acalls_intro Go.Proofs.Tryd.func52 rfl (by kernel_rfl) Go.Proofs.Tryd.ntmps52 Go.Proofs.Tryd.results52 (by simp) rfl rfl ?_
 try simp only [go_sem]
 refine awp_seq_k fun K1 hK1 => ?_
 refine awp_regionL (by rfl) ?_
 try simp only [go_sem]
 refine hK1 _ _ _ (awp_keep [0, 1, 4] ?_)
 try clear hK1 K1
 try simp only [go_sem]
 refine awp_seq_k fun K2 hK2 => ?_
 refine awp_regionL (by rfl) ?_
 try simp only [go_sem]
 refine hK2 _ _ _ (awp_keep [4] ?_)
 try clear hK2 K2
 try simp only [go_sem]
 refine awp_ret ?_
 try simp only [go_sem]
 try clear hK2 K2
 try clear hK1 K1
 refine ret_p (by simp) (by rfl) ?_ (by rfl)
 (try simp (disch := omega) only [w_i64, w_u8, w_u16, w_u32, w_u64]); simp only [go_sem] <;> (first | rfl | omega | trivial | (simp; done) | simp_all)
end

theorem octet_Left_not (r : Rd) (h : r.short = false) : ACX Go.Proofs.Tryd.prog G0 69 [.l (.ptr 0 0)] [r.blk] [] (.l (.int .i64 r.rest.length)) [r.blk] [] := by
  have := octet_Left_ok r
  rw [h] at this
  exact this

section
attribute [local go_sem] bytes One.cells Rd.blk Rd.cells
set_option maxRecDepth 20000 in
set_option maxHeartbeats 8000000 in
theorem attrs_split_ok (b : List Int) (hb : b.length ≤ 1000000000) : ACX Go.Proofs.Tryd.prog G0 50 [.l (bytes b)] [] [] (.tup [.agg (splitO b).cells, .l (bytes (splitB b)), .l (.bool (!(spR4 b).short))]) [] [] := by
 refine acalls_intro Go.Proofs.Tryd.func50 rfl (by kernel_rfl) Go.Proofs.Tryd.ntmps50 Go.Proofs.Tryd.results50 (by simp) rfl rfl ?_
 try simp only [go_sem]
 have h1 := spR1_le b
 have h2 := spR2_le b
 have h3 := spR3_le b
 have h4 := spR4_le b
 refine awp_seq_k fun K1 hK1 => ?_
 refine awp_regionL (by rfl) ?_
 try simp only [go_sem]
 refine hK1 _ _ _ (awp_keep [0, 2] ?_)
 try clear hK1 K1
 try simp only [go_sem]
 refine awp_seq_k fun K2 hK2 => ?_
 refine awp_regionL (by rfl) ?_
 try simp only [go_sem]
 refine acall_xa (octet_New_ok b hb) [] [] ?_
 try simp only [go_sem]
 refine hK2 _ _ _ (awp_keep [0, 2, 5] ?_)
 try clear hK2 K2
 try simp only [go_sem]
 refine awp_seq_k fun K3 hK3 => ?_
 refine awp_regionL (by rfl) ?_
 try simp only [go_sem]
 refine acall_xa (octet_Byte_ok ⟨b, false⟩ hb) [1] [] ?_
 try simp only [go_sem]
 refine acall_xa (octet_Byte_ok (spR1 b) (by omega)) [1] [] ?_
 try simp only [go_sem]
 refine hK3 _ _ _ (awp_keep [0, 2, 5, 6] ?_)
 try clear hK3 K3
 try simp only [go_sem]
 refine awp_seq_k fun K4 hK4 => ?_
 refine awp_regionL (by rfl) ?_
 try simp only [go_sem]
 refine hK4 _ _ _ (awp_keep [0, 2, 5, 6] ?_)
 try clear hK4 K4
 try simp only [go_sem]
 refine awp_joinE (α := Unit) (fun (_u : Unit) => True) (fun (_u : Unit) => [(7, .l (.int .i64 (spN b)))]) (fun (_u : Unit) => [⟨75, One.cells ⟨0, 0, [], []⟩⟩, (spR3 b).blk, ⟨75, One.cells ⟨spF b, spK b, [], []⟩⟩]) (fun (_u : Unit) => []) [0, 2, 5, 6] (fun K5 hK5 => ?_) ?_
 ·
  skip
  refine awp_seq_k fun K6 hK6 => ?_
  refine awp_regionL (by rfl) ?_
  try simp only [go_sem]
  refine hK6 _ _ _ (awp_keep [0, 2, 5, 6, 18] ?_)
  try clear hK6 K6
  try simp only [go_sem]
  refine awp_cond (by rfl) (fun hc0 => ?_) (fun hc0 => ?_)
  ·
   skip
   try simp only [decide_eq_true_eq, decide_eq_false_iff_not, Bool.not_eq_true', Bool.not_eq_false', Bool.and_eq_true, Bool.or_eq_true, Bool.or_eq_false_iff, Bool.and_eq_false_imp] at hc0
   refine awp_regionL (by rfl) ?_
   try simp only [go_sem]
   refine acall_xa (octet_U16_ok (spR2 b) (by omega)) [1] [] ?_
   try simp only [go_sem]
   have hx : spX b := hc0
   have e1 : spN b = _ := if_pos hx
   have e2 : spR3 b = _ := if_pos hx
   refine hK5 _ _ _ ⟨(), [], ?_, ?_⟩
   ·
    (try simp (disch := omega) only [w_i64, w_u8, w_u16, w_u32, w_u64]); simp only [Lss, go_sem, e1, e2]
    all_goals first | rfl | omega | trivial | exact ⟨rfl, rfl⟩
    all_goals first | rfl | omega | trivial
   ·
    first | omega | (constructor <;> omega) | trivial
  ·
   skip
   try simp only [decide_eq_true_eq, decide_eq_false_iff_not, Bool.not_eq_true', Bool.not_eq_false', Bool.and_eq_true, Bool.or_eq_true, Bool.or_eq_false_iff, Bool.and_eq_false_imp] at hc0
   refine awp_regionL (by rfl) ?_
   try simp only [go_sem]
   refine acall_xa (octet_Byte_ok (spR2 b) (by omega)) [1] [] ?_
   try simp only [go_sem]
   have hx : ¬ spX b := fun h => h hc0
   have e1 : spN b = _ := if_neg hx
   have e2 : spR3 b = _ := if_neg hx
   refine hK5 _ _ _ ⟨(), [], ?_, ?_⟩
   ·
    (try simp (disch := omega) only [w_i64, w_u8, w_u16, w_u32, w_u64]); simp only [Lss, go_sem, e1, e2]
    all_goals first | rfl | omega | trivial | exact ⟨rfl, rfl⟩
    all_goals first | rfl | omega | trivial
   ·
    first | omega | (constructor <;> omega) | trivial
 ·
  rintro _u hj
  try simp only [go_sem]
  refine awp_seq_k fun K7 hK7 => ?_
  refine awp_regionL (by rfl) ?_
  try simp only [go_sem]
  refine acall_xa (octet_Take_ok (spR3 b) (spN b) (by omega)) [1] [] ?_
  try simp only [go_sem]
  refine hK7 _ _ _ (awp_keep [0, 2, 5, 6] ?_)
  try clear hK7 K7
  try simp only [go_sem]
  refine awp_seq_k fun K8 hK8 => ?_
  refine awp_seq_k fun K9 hK9 => ?_
  refine awp_regionL (by rfl) ?_
  try simp only [go_sem]
  refine acall_xa (octet_Err_ok (spR4 b)) [1] [] ?_
  try simp only [go_sem]
  refine hK9 _ _ _ (awp_keep [0, 2, 5, 6, 29] ?_)
  try clear hK9 K9
  try simp only [go_sem]
  refine awp_cond (by rfl) (fun hc1 => ?_) (fun hc1 => ?_)
  ·
   skip
   try simp only [decide_eq_true_eq, decide_eq_false_iff_not, Bool.not_eq_true', Bool.not_eq_false', Bool.and_eq_true, Bool.or_eq_true, Bool.or_eq_false_iff, Bool.and_eq_false_imp] at hc1
   have hs : (spR4 b).short = true := by revert hc1; cases (spR4 b).short <;> simp
   refine awp_seq_k fun K10 hK10 => ?_
   refine awp_regionL (by rfl) ?_
   try simp only [go_sem]
   refine hK10 _ _ _ (awp_keep [2, 3, 4] ?_)
   try clear hK10 K10
   try simp only [go_sem]
   refine awp_ret ?_
   try simp only [go_sem]
   try clear hK10 K10
   try clear hK9 K9
   try clear hK8 K8
   try clear hK7 K7
   try clear hK6 K6
   try clear hK5 K5
   try clear hK4 K4
   try clear hK3 K3
   try clear hK2 K2
   try clear hK1 K1
   refine ret_p (by simp) (by rfl) ?_ (by rfl)
   (try simp (disch := omega) only [w_i64, w_u8, w_u16, w_u32, w_u64]); simp only [go_sem] <;> (simp [splitO, splitB, hs, bl_take, bl_drop, bl_nil, spV])
  ·
   skip
   try simp only [decide_eq_true_eq, decide_eq_false_iff_not, Bool.not_eq_true', Bool.not_eq_false', Bool.and_eq_true, Bool.or_eq_true, Bool.or_eq_false_iff, Bool.and_eq_false_imp] at hc1
   have hs : (spR4 b).short = false := by revert hc1; cases (spR4 b).short <;> simp
   refine awp_skip ?_
   try simp only [go_sem]
   refine hK8 _ _ _ (awp_keep [0, 2, 5, 6] ?_)
   try clear hK8 K8
   try simp only [go_sem]
   refine awp_seq_k fun K11 hK11 => ?_
   refine awp_regionL (by rfl) ?_
   try simp only [go_sem]
   refine acall_xa (octet_Left_not (spR4 b) hs) [1] [] ?_
   try simp only [go_sem]
   try simp (disch := omega) only [w_i64, w_u8, w_u16, w_u32, w_u64]
   refine Must.intro (by omega) ?_
   try simp only [go_sem]
   try simp (disch := omega) only [w_i64, w_u8, w_u16, w_u32, w_u64]
   refine hK11 _ _ _ (awp_keep [0, 2, 5, 6] ?_)
   try clear hK11 K11
   try simp only [go_sem]
   refine awp_seq_k fun K12 hK12 => ?_
   refine awp_drawP (by kernel_rfl) (by rfl) (by kernel_rfl) (fun i => decide (i ≠ 1)) (.early 0 (.early 1 (.early 2 (.early 3 (.early 4 (.last 5 (.early 6 (.early 7 (.late 8 (.early 9 (.early 10 .done))))))))))) (by kernel_rfl) (fun _ _ _ _ => by simp only [go_sem, not_false_eq_true]) ?_
   try simp only [go_sem]
   refine acall_xa (octet_Left_not (spR4 b) hs) [1] [] ?_
   try simp only [go_sem]
   try simp (disch := omega) only [w_i64, w_u8, w_u16, w_u32, w_u64]
   refine Must.intro (by omega) ?_
   try simp only [go_sem]
   try simp (disch := omega) only [w_i64, w_u8, w_u16, w_u32, w_u64]
   refine hK12 _ _ _ (awp_keep [2, 3, 4] ?_)
   try clear hK12 K12
   try simp only [go_sem]
   refine awp_ret ?_
   try simp only [go_sem]
   try clear hK12 K12
   try clear hK11 K11
   try clear hK10 K10
   try clear hK9 K9
   try clear hK8 K8
   try clear hK7 K7
   try clear hK6 K6
   try clear hK5 K5
   try clear hK4 K4
   try clear hK3 K3
   try clear hK2 K2
   try clear hK1 K1
   refine ret_p (by simp) (by rfl) ?_ (by rfl)
   (try simp (disch := omega) only [w_i64, w_u8, w_u16, w_u32, w_u64]); simp only [go_sem] <;> (simp [splitO, splitB, hs, bl_take, bl_drop, bl_nil, spV])
end

end Go.Abs
