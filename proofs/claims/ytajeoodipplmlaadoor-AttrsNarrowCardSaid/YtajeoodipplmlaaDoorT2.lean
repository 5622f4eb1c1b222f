/-
  OCTETS: numbers as bytes, and the reader of bytes.
-/
import Derived.Test.YtajeoodipplmlaaDoorT0
set_option linter.all false
namespace Go.Abs
open Go Go.Proofs
def bl (l : List Int) : List (List LV) := l.map fun n => [.int .u8 n]
@[go_sem] theorem bl_length (l : List Int) : (bl l).length = l.length := by simp [bl]
def bytes (l : List Int) : LV := .slice .shared 1 (bl l)
theorem bl_append (a b : List Int) : bl (a ++ b) = bl a ++ bl b := by simp [bl]
theorem bl_snoc (a : List Int) (x : Int) : bl a ++ [[.int .u8 x]] = bl (a ++ [x]) := by simp [bl]
theorem bl_nil : bl [] = [] := rfl
theorem bl_get (l : List Int) (i : Nat) (h : i < (bl l).length) : (bl l)[i] = [.int .u8 (l[i]'(by simpa [bl] using h))] := by simp [bl]
theorem bl_take (l : List Int) (n : Nat) : (bl l).take n = bl (l.take n) := by simp [bl, List.map_take]
theorem bl_drop (l : List Int) (n : Nat) : (bl l).drop n = bl (l.drop n) := by simp [bl, List.map_drop]
def looksC : List LV := [.int .i64 0, .int .i64 0, .int .i64 0, .int .i64 64, .int .i64 1, .int .i64 1, .int .i64 64, .int .i64 0, .int .i64 65536, .int .i64 64, .int .i64 4, .int .i64 4, .int .i64 128, .int .i64 4, .int .i64 4, .int .i64 64, .int .i64 4, .int .i64 4, .int .i64 64, .int .i64 0, .int .i64 0, .int .i64 192, .int .i64 6, .int .i64 8, .int .i64 192, .int .i64 0, .int .i64 65536, .int .i64 0, .int .i64 0, .int .i64 0, .int .i64 0, .int .i64 0, .int .i64 0, .int .i64 0, .int .i64 0, .int .i64 0, .int .i64 0, .int .i64 0, .int .i64 0, .int .i64 0, .int .i64 0, .int .i64 0, .int .i64 0, .int .i64 0, .int .i64 0, .int .i64 0, .int .i64 0, .int .i64 0, .int .i64 0, .int .i64 0, .int .i64 0, .int .i64 192, .int .i64 0, .int .i64 65536, .int .i64 192, .int .i64 0, .int .i64 65536]
@[go_sem] theorem looksC_0 : looksC[0]? = some (.int .i64 0) := rfl
@[go_sem] theorem looksC_1 : looksC[1]? = some (.int .i64 0) := rfl
@[go_sem] theorem looksC_2 : looksC[2]? = some (.int .i64 0) := rfl
@[go_sem] theorem looksC_3 : looksC[3]? = some (.int .i64 64) := rfl
@[go_sem] theorem looksC_4 : looksC[4]? = some (.int .i64 1) := rfl
@[go_sem] theorem looksC_5 : looksC[5]? = some (.int .i64 1) := rfl
@[go_sem] theorem looksC_6 : looksC[6]? = some (.int .i64 64) := rfl
@[go_sem] theorem looksC_7 : looksC[7]? = some (.int .i64 0) := rfl
@[go_sem] theorem looksC_8 : looksC[8]? = some (.int .i64 65536) := rfl
@[go_sem] theorem looksC_9 : looksC[9]? = some (.int .i64 64) := rfl
@[go_sem] theorem looksC_10 : looksC[10]? = some (.int .i64 4) := rfl
@[go_sem] theorem looksC_11 : looksC[11]? = some (.int .i64 4) := rfl
@[go_sem] theorem looksC_12 : looksC[12]? = some (.int .i64 128) := rfl
@[go_sem] theorem looksC_13 : looksC[13]? = some (.int .i64 4) := rfl
@[go_sem] theorem looksC_14 : looksC[14]? = some (.int .i64 4) := rfl
@[go_sem] theorem looksC_15 : looksC[15]? = some (.int .i64 64) := rfl
@[go_sem] theorem looksC_16 : looksC[16]? = some (.int .i64 4) := rfl
@[go_sem] theorem looksC_17 : looksC[17]? = some (.int .i64 4) := rfl
@[go_sem] theorem looksC_18 : looksC[18]? = some (.int .i64 64) := rfl
@[go_sem] theorem looksC_19 : looksC[19]? = some (.int .i64 0) := rfl
@[go_sem] theorem looksC_20 : looksC[20]? = some (.int .i64 0) := rfl
@[go_sem] theorem looksC_21 : looksC[21]? = some (.int .i64 192) := rfl
@[go_sem] theorem looksC_22 : looksC[22]? = some (.int .i64 6) := rfl
@[go_sem] theorem looksC_23 : looksC[23]? = some (.int .i64 8) := rfl
@[go_sem] theorem looksC_24 : looksC[24]? = some (.int .i64 192) := rfl
@[go_sem] theorem looksC_25 : looksC[25]? = some (.int .i64 0) := rfl
@[go_sem] theorem looksC_26 : looksC[26]? = some (.int .i64 65536) := rfl
@[go_sem] theorem looksC_27 : looksC[27]? = some (.int .i64 0) := rfl
@[go_sem] theorem looksC_28 : looksC[28]? = some (.int .i64 0) := rfl
@[go_sem] theorem looksC_29 : looksC[29]? = some (.int .i64 0) := rfl
@[go_sem] theorem looksC_30 : looksC[30]? = some (.int .i64 0) := rfl
@[go_sem] theorem looksC_31 : looksC[31]? = some (.int .i64 0) := rfl
@[go_sem] theorem looksC_32 : looksC[32]? = some (.int .i64 0) := rfl
@[go_sem] theorem looksC_33 : looksC[33]? = some (.int .i64 0) := rfl
@[go_sem] theorem looksC_34 : looksC[34]? = some (.int .i64 0) := rfl
@[go_sem] theorem looksC_35 : looksC[35]? = some (.int .i64 0) := rfl
@[go_sem] theorem looksC_36 : looksC[36]? = some (.int .i64 0) := rfl
@[go_sem] theorem looksC_37 : looksC[37]? = some (.int .i64 0) := rfl
@[go_sem] theorem looksC_38 : looksC[38]? = some (.int .i64 0) := rfl
@[go_sem] theorem looksC_39 : looksC[39]? = some (.int .i64 0) := rfl
@[go_sem] theorem looksC_40 : looksC[40]? = some (.int .i64 0) := rfl
@[go_sem] theorem looksC_41 : looksC[41]? = some (.int .i64 0) := rfl
@[go_sem] theorem looksC_42 : looksC[42]? = some (.int .i64 0) := rfl
@[go_sem] theorem looksC_43 : looksC[43]? = some (.int .i64 0) := rfl
@[go_sem] theorem looksC_44 : looksC[44]? = some (.int .i64 0) := rfl
@[go_sem] theorem looksC_45 : looksC[45]? = some (.int .i64 0) := rfl
@[go_sem] theorem looksC_46 : looksC[46]? = some (.int .i64 0) := rfl
@[go_sem] theorem looksC_47 : looksC[47]? = some (.int .i64 0) := rfl
@[go_sem] theorem looksC_48 : looksC[48]? = some (.int .i64 0) := rfl
@[go_sem] theorem looksC_49 : looksC[49]? = some (.int .i64 0) := rfl
@[go_sem] theorem looksC_50 : looksC[50]? = some (.int .i64 0) := rfl
@[go_sem] theorem looksC_51 : looksC[51]? = some (.int .i64 192) := rfl
@[go_sem] theorem looksC_52 : looksC[52]? = some (.int .i64 0) := rfl
@[go_sem] theorem looksC_53 : looksC[53]? = some (.int .i64 65536) := rfl
@[go_sem] theorem looksC_54 : looksC[54]? = some (.int .i64 192) := rfl
@[go_sem] theorem looksC_55 : looksC[55]? = some (.int .i64 0) := rfl
@[go_sem] theorem looksC_56 : looksC[56]? = some (.int .i64 65536) := rfl
/-- What the globals hold. -/
def G0 : Nat → Option (List LV) := fun g => if g = 0 then some looksC else none
@[go_sem] theorem G0_0 : G0 0 = some looksC := rfl
def shb (k : IntKind) (n : Int) (i : Nat) : Int := IntKind.u8.wrap (n.fdiv (2 ^ min (8 * i) k.bits))
def putS (k : IntKind) (n : Int) (w j : Nat) : List Int := (List.range j).map fun i => shb k n (w - 1 - i)
theorem putS_succ (k : IntKind) (n : Int) (w j : Nat) : putS k n w (j + 1) = putS k n w j ++ [shb k n (w - 1 - j)] := by simp [putS, List.range_succ]
@[simp, go_sem] theorem putS_length (k : IntKind) (n : Int) (w j : Nat) : (putS k n w j).length = j := by simp [putS]

section
attribute [local go_sem] bytes List.length_append
set_option maxRecDepth 20000 in
set_option maxHeartbeats 8000000 in
theorem put_u16_ok (b : List Int) (n : Int) (w : Nat) (hw : w ≤ 4) (hb : b.length ≤ 1000000000) : ACX Go.Proofs.Tryd.prog G0 59 [.l (bytes b), .l (.int .u16 n), .l (.int .i64 w)] [] [] (.l (.slice (.row 0) 1 (bl (b ++ putS .u16 n w w)))) [] [(5, b.length + w)] := by
 refine acalls_intro Go.Proofs.Tryd.func59 rfl (by kernel_rfl) Go.Proofs.Tryd.ntmps59 Go.Proofs.Tryd.results59 (by simp) rfl rfl ?_
 try simp only [go_sem]
 refine awp_seq_k fun K1 hK1 => ?_
 refine awp_regionL (by rfl) ?_
 try simp only [go_sem]
 refine hK1 _ _ _ (awp_keep [0, 1, 2] ?_)
 try clear hK1 K1
 try simp only [go_sem]
 refine awp_seq_k fun K2 hK2 => ?_
 refine awp_regionL (by rfl) ?_
 try simp only [go_sem]
 refine app_new rfl rfl (.inl rfl) (by decide) tby5 (by (try simp only [go_sem, List.length_append, List.length_map, bl_length]); first | omega | (simp; done) | (simp; omega)) (by (try simp only [go_sem, List.length_append, List.length_map, bl_length]); first | omega | (simp; done) | (simp; omega)) ?_
 try simp only [go_sem]
 refine hK2 _ _ _ (awp_keep [1, 2, 7] ?_)
 try clear hK2 K2
 try simp only [go_sem]
 refine awp_seq_k fun K3 hK3 => ?_
 refine awp_seq_k fun K4 hK4 => ?_
 refine awp_regionL (by rfl) ?_
 try simp only [go_sem]
 try simp (disch := omega) only [w_i64, w_u8, w_u16, w_u32, w_u64]
 refine hK4 _ _ _ (awp_keep [1, 7, 8] ?_)
 try clear hK4 K4
 try simp only [go_sem]
 refine awp_block ?_
 refine awp_loopE (α := (Nat)) (fun (j : (Nat)) => j ≤ w) (fun (j : (Nat)) => w - j) (fun (j : (Nat)) => [(7, .l (.slice (.row 0) 1 (bl (b ++ putS .u16 n w j)))), (8, .l (.int .i64 ((w : Int) - 1 - j)))]) (fun (j : (Nat)) => []) (fun (j : (Nat)) => [(5, b.length + j)]) [1] 0 [0] ?_ ?_ ?_
 ·
  simp only [Lss, go_sem]
  simp [putS]
  all_goals first | rfl | omega | trivial
 ·
  first | trivial | omega | (simp; done) | (constructor <;> omega)
 rintro j hj K5 hK5
 try simp only [go_sem]
 refine awp_seq_k fun K6 hK6 => ?_
 refine awp_seq_k fun K7 hK7 => ?_
 refine awp_regionL (by rfl) ?_
 try simp only [go_sem]
 refine hK7 _ _ _ (awp_keep [1, 7, 8, 14] ?_)
 try clear hK7 K7
 try simp only [go_sem]
 refine awp_cond (by rfl) (fun hc0 => ?_) (fun hc0 => ?_)
 ·
  skip
  try simp only [decide_eq_true_eq, decide_eq_false_iff_not, Bool.not_eq_true', Bool.not_eq_false', Bool.and_eq_true, Bool.or_eq_true, Bool.or_eq_false_iff, Bool.and_eq_false_imp] at hc0
  refine awp_skip ?_
  try simp only [go_sem]
  refine hK6 _ _ _ (awp_keep [1, 7, 8] ?_)
  try clear hK6 K6
  try simp only [go_sem]
  refine awp_seq_k fun K8 hK8 => ?_
  refine awp_block ?_
  refine awp_regionL (by rfl) ?_
  try simp only [go_sem]
  try simp (disch := omega) only [w_i64, w_u8, w_u16, w_u32, w_u64]
  refine Must.intro (by omega) ?_
  try simp only [go_sem]
  try simp (disch := omega) only [w_i64, w_u8, w_u16, w_u32, w_u64]
  refine app_row rfl rfl rfl (by first | rfl | (simp only [go_sem, List.length_append, List.length_map, bl_length]; done) | (simp; done) | (simp; omega)) rfl (.inl rfl) (by decide) tby5 (by (try simp only [go_sem, List.length_append, List.length_map, bl_length]); first | omega | (simp; done) | (simp; omega)) (by (try simp only [go_sem, List.length_append, List.length_map, bl_length]); first | omega | (simp; done) | (simp; omega)) ?_
  try simp only [go_sem]
  try simp (disch := omega) only [w_i64, w_u8, w_u16, w_u32, w_u64]
  refine hK8 _ _ _ (awp_keep [1, 7, 8] ?_)
  try clear hK8 K8
  try simp only [go_sem]
  refine awp_regionL (by rfl) ?_
  try simp only [go_sem]
  try simp (disch := omega) only [w_i64, w_u8, w_u16, w_u32, w_u64]
  refine hK5 _ _ _ ⟨j + 1, [0], ?_, ?_⟩
  ·
   (try simp (disch := omega) only [w_i64, w_u8, w_u16, w_u32, w_u64]); simp only [Lss, go_sem]
   refine ⟨⟨?_, by omega⟩, rfl, by omega⟩
   rw [bl_snoc, List.append_assoc, putS_succ, shb, show (8 * ((w : Int) - 1 - j)).toNat = 8 * (w - 1 - j) by omega]
   rfl
   all_goals first | rfl | omega | trivial
  ·
   first | omega | (constructor <;> omega) | trivial
 ·
  skip
  try simp only [decide_eq_true_eq, decide_eq_false_iff_not, Bool.not_eq_true', Bool.not_eq_false', Bool.and_eq_true, Bool.or_eq_true, Bool.or_eq_false_iff, Bool.and_eq_false_imp] at hc0
  obtain rfl : j = w := by omega
  refine awp_exit ?_
  try simp only [go_sem]
  refine hK3 _ _ _ (awp_keep [7] ?_)
  try clear hK3 K3
  try simp only [go_sem]
  refine awp_seq_k fun K9 hK9 => ?_
  refine awp_regionL (by rfl) ?_
  try simp only [go_sem]
  refine hK9 _ _ _ (awp_keep [6] ?_)
  try clear hK9 K9
  try simp only [go_sem]
  refine awp_ret ?_
  try simp only [go_sem]
  try clear hK9 K9
  try clear hK8 K8
  try clear hK7 K7
  try clear hK6 K6
  try clear hK5 K5
  try clear hK4 K4
  try clear hK3 K3
  try clear hK2 K2
  try clear hK1 K1
  refine ret_x [0] (by simp) (by rfl) ?_ (by rfl) ?_ (by rfl) (by simp) (by simp) (by rfl) ?_ <;> ((try simp (disch := omega) only [w_i64, w_u8, w_u16, w_u32, w_u64]); simp only [go_sem]) <;> (first | rfl | omega | trivial | (simp; done) | simp_all)
end

section
attribute [local go_sem] bytes List.length_append
set_option maxRecDepth 20000 in
set_option maxHeartbeats 8000000 in
theorem put_u32_ok (b : List Int) (n : Int) (w : Nat) (hw : w ≤ 4) (hb : b.length ≤ 1000000000) : ACX Go.Proofs.Tryd.prog G0 60 [.l (bytes b), .l (.int .u32 n), .l (.int .i64 w)] [] [] (.l (.slice (.row 0) 1 (bl (b ++ putS .u32 n w w)))) [] [(5, b.length + w)] := by
 refine acalls_intro Go.Proofs.Tryd.func60 rfl (by kernel_rfl) Go.Proofs.Tryd.ntmps60 Go.Proofs.Tryd.results60 (by simp) rfl rfl ?_
 try simp only [go_sem]
 refine awp_seq_k fun K1 hK1 => ?_
 refine awp_regionL (by rfl) ?_
 try simp only [go_sem]
 refine hK1 _ _ _ (awp_keep [0, 1, 2] ?_)
 try clear hK1 K1
 try simp only [go_sem]
 refine awp_seq_k fun K2 hK2 => ?_
 refine awp_regionL (by rfl) ?_
 try simp only [go_sem]
 refine app_new rfl rfl (.inl rfl) (by decide) tby5 (by (try simp only [go_sem, List.length_append, List.length_map, bl_length]); first | omega | (simp; done) | (simp; omega)) (by (try simp only [go_sem, List.length_append, List.length_map, bl_length]); first | omega | (simp; done) | (simp; omega)) ?_
 try simp only [go_sem]
 refine hK2 _ _ _ (awp_keep [1, 2, 7] ?_)
 try clear hK2 K2
 try simp only [go_sem]
 refine awp_seq_k fun K3 hK3 => ?_
 refine awp_seq_k fun K4 hK4 => ?_
 refine awp_regionL (by rfl) ?_
 try simp only [go_sem]
 try simp (disch := omega) only [w_i64, w_u8, w_u16, w_u32, w_u64]
 refine hK4 _ _ _ (awp_keep [1, 7, 8] ?_)
 try clear hK4 K4
 try simp only [go_sem]
 refine awp_block ?_
 refine awp_loopE (α := (Nat)) (fun (j : (Nat)) => j ≤ w) (fun (j : (Nat)) => w - j) (fun (j : (Nat)) => [(7, .l (.slice (.row 0) 1 (bl (b ++ putS .u32 n w j)))), (8, .l (.int .i64 ((w : Int) - 1 - j)))]) (fun (j : (Nat)) => []) (fun (j : (Nat)) => [(5, b.length + j)]) [1] 0 [0] ?_ ?_ ?_
 ·
  simp only [Lss, go_sem]
  simp [putS]
  all_goals first | rfl | omega | trivial
 ·
  first | trivial | omega | (simp; done) | (constructor <;> omega)
 rintro j hj K5 hK5
 try simp only [go_sem]
 refine awp_seq_k fun K6 hK6 => ?_
 refine awp_seq_k fun K7 hK7 => ?_
 refine awp_regionL (by rfl) ?_
 try simp only [go_sem]
 refine hK7 _ _ _ (awp_keep [1, 7, 8, 14] ?_)
 try clear hK7 K7
 try simp only [go_sem]
 refine awp_cond (by rfl) (fun hc0 => ?_) (fun hc0 => ?_)
 ·
  skip
  try simp only [decide_eq_true_eq, decide_eq_false_iff_not, Bool.not_eq_true', Bool.not_eq_false', Bool.and_eq_true, Bool.or_eq_true, Bool.or_eq_false_iff, Bool.and_eq_false_imp] at hc0
  refine awp_skip ?_
  try simp only [go_sem]
  refine hK6 _ _ _ (awp_keep [1, 7, 8] ?_)
  try clear hK6 K6
  try simp only [go_sem]
  refine awp_seq_k fun K8 hK8 => ?_
  refine awp_block ?_
  refine awp_regionL (by rfl) ?_
  try simp only [go_sem]
  try simp (disch := omega) only [w_i64, w_u8, w_u16, w_u32, w_u64]
  refine Must.intro (by omega) ?_
  try simp only [go_sem]
  try simp (disch := omega) only [w_i64, w_u8, w_u16, w_u32, w_u64]
  refine app_row rfl rfl rfl (by first | rfl | (simp only [go_sem, List.length_append, List.length_map, bl_length]; done) | (simp; done) | (simp; omega)) rfl (.inl rfl) (by decide) tby5 (by (try simp only [go_sem, List.length_append, List.length_map, bl_length]); first | omega | (simp; done) | (simp; omega)) (by (try simp only [go_sem, List.length_append, List.length_map, bl_length]); first | omega | (simp; done) | (simp; omega)) ?_
  try simp only [go_sem]
  try simp (disch := omega) only [w_i64, w_u8, w_u16, w_u32, w_u64]
  refine hK8 _ _ _ (awp_keep [1, 7, 8] ?_)
  try clear hK8 K8
  try simp only [go_sem]
  refine awp_regionL (by rfl) ?_
  try simp only [go_sem]
  try simp (disch := omega) only [w_i64, w_u8, w_u16, w_u32, w_u64]
  refine hK5 _ _ _ ⟨j + 1, [0], ?_, ?_⟩
  ·
   (try simp (disch := omega) only [w_i64, w_u8, w_u16, w_u32, w_u64]); simp only [Lss, go_sem]
   refine ⟨⟨?_, by omega⟩, rfl, by omega⟩
   rw [bl_snoc, List.append_assoc, putS_succ, shb, show (8 * ((w : Int) - 1 - j)).toNat = 8 * (w - 1 - j) by omega]
   rfl
   all_goals first | rfl | omega | trivial
  ·
   first | omega | (constructor <;> omega) | trivial
 ·
  skip
  try simp only [decide_eq_true_eq, decide_eq_false_iff_not, Bool.not_eq_true', Bool.not_eq_false', Bool.and_eq_true, Bool.or_eq_true, Bool.or_eq_false_iff, Bool.and_eq_false_imp] at hc0
  obtain rfl : j = w := by omega
  refine awp_exit ?_
  try simp only [go_sem]
  refine hK3 _ _ _ (awp_keep [7] ?_)
  try clear hK3 K3
  try simp only [go_sem]
  refine awp_seq_k fun K9 hK9 => ?_
  refine awp_regionL (by rfl) ?_
  try simp only [go_sem]
  refine hK9 _ _ _ (awp_keep [6] ?_)
  try clear hK9 K9
  try simp only [go_sem]
  refine awp_ret ?_
  try simp only [go_sem]
  try clear hK9 K9
  try clear hK8 K8
  try clear hK7 K7
  try clear hK6 K6
  try clear hK5 K5
  try clear hK4 K4
  try clear hK3 K3
  try clear hK2 K2
  try clear hK1 K1
  refine ret_x [0] (by simp) (by rfl) ?_ (by rfl) ?_ (by rfl) (by simp) (by simp) (by rfl) ?_ <;> ((try simp (disch := omega) only [w_i64, w_u8, w_u16, w_u32, w_u64]); simp only [go_sem]) <;> (first | rfl | omega | trivial | (simp; done) | simp_all)
end


/-- The reader: what is left, and whether it was short. -/
structure Rd where
  rest : List Int
  short : Bool
def Rd.cells (r : Rd) : List LV := [bytes r.rest, .bool r.short]
def Rd.blk (r : Rd) : Blk := ⟨107, r.cells⟩
def Rd.take (r : Rd) (n : Int) : List Int × Rd :=
  if r.short then ([], r) else if n < 0 ∨ n > r.rest.length then ([], ⟨r.rest, true⟩) else (r.rest.take n.toNat, ⟨r.rest.drop n.toNat, false⟩)
def be (l : List Int) : Int := l.foldl (fun x c => bits .or .u32 (IntKind.u32.wrap (x * 2 ^ 8)) (IntKind.u32.wrap c)) 0

section
attribute [local go_sem] bytes
set_option maxRecDepth 20000 in
set_option maxHeartbeats 8000000 in
theorem octet_Put16_ok (b : List Int) (n : Int) (hb : b.length ≤ 1000000000) : ACX Go.Proofs.Tryd.prog G0 40 [.l (bytes b), .l (.int .i64 n)] [] [] (.l (.slice (.row 0) 1 (bl (b ++ putS .u16 (IntKind.u16.wrap (bits .and .i64 n 65535)) 2 2)))) [] [(5, b.length + 2)] := by
 refine acalls_intro Go.Proofs.Tryd.func40 rfl (by kernel_rfl) Go.Proofs.Tryd.ntmps40 Go.Proofs.Tryd.results40 (by simp) rfl rfl ?_
 try simp only [go_sem]
 refine awp_seq_k fun K1 hK1 => ?_
 refine awp_regionL (by rfl) ?_
 try simp only [go_sem]
 refine hK1 _ _ _ (awp_keep [0, 1] ?_)
 try clear hK1 K1
 try simp only [go_sem]
 refine awp_seq_k fun K2 hK2 => ?_
 refine awp_regionL (by rfl) ?_
 try simp only [go_sem]
 refine acall_xa (put_u16_ok b (IntKind.u16.wrap (bits .and .i64 n 65535)) 2 (by decide) hb) [] [] ?_
 try simp only [go_sem]
 try simp (disch := omega) only [w_i64, w_u8, w_u16, w_u32, w_u64]
 refine hK2 _ _ _ (awp_keep [4] ?_)
 try clear hK2 K2
 try simp only [go_sem]
 refine awp_ret ?_
 try simp only [go_sem]
 try clear hK2 K2
 try clear hK1 K1
 refine ret_x [0] (by simp) (by rfl) ?_ (by rfl) ?_ (by rfl) (by simp) (by simp) (by rfl) ?_ <;> ((try simp (disch := omega) only [w_i64, w_u8, w_u16, w_u32, w_u64]); simp only [go_sem]) <;> (first | rfl | omega | trivial | (simp; done) | simp_all)
end

section
attribute [local go_sem] bytes
set_option maxRecDepth 20000 in
set_option maxHeartbeats 8000000 in
theorem octet_Put32_ok (b : List Int) (n : Int) (hb : b.length ≤ 1000000000) : ACX Go.Proofs.Tryd.prog G0 42 [.l (bytes b), .l (.int .u32 n)] [] [] (.l (.slice (.row 0) 1 (bl (b ++ putS .u32 n 4 4)))) [] [(5, b.length + 4)] := by
 refine acalls_intro Go.Proofs.Tryd.func42 rfl (by kernel_rfl) Go.Proofs.Tryd.ntmps42 Go.Proofs.Tryd.results42 (by simp) rfl rfl ?_
 try simp only [go_sem]
 refine awp_seq_k fun K1 hK1 => ?_
 refine awp_regionL (by rfl) ?_
 try simp only [go_sem]
 refine hK1 _ _ _ (awp_keep [0, 1] ?_)
 try clear hK1 K1
 try simp only [go_sem]
 refine awp_seq_k fun K2 hK2 => ?_
 refine awp_regionL (by rfl) ?_
 try simp only [go_sem]
 refine acall_xa (put_u32_ok b n 4 (by decide) hb) [] [] ?_
 try simp only [go_sem]
 refine hK2 _ _ _ (awp_keep [4] ?_)
 try clear hK2 K2
 try simp only [go_sem]
 refine awp_ret ?_
 try simp only [go_sem]
 try clear hK2 K2
 try clear hK1 K1
 refine ret_x [0] (by simp) (by rfl) ?_ (by rfl) ?_ (by rfl) (by simp) (by simp) (by rfl) ?_ <;> ((try simp (disch := omega) only [w_i64, w_u8, w_u16, w_u32, w_u64]); simp only [go_sem]) <;> (first | rfl | omega | trivial | (simp; done) | simp_all)
end

section
attribute [local go_sem] bytes Rd.blk Rd.cells
set_option maxRecDepth 20000 in
set_option maxHeartbeats 8000000 in
theorem octet_New_ok (b : List Int) (hb : b.length ≤ 1000000000) : ACX Go.Proofs.Tryd.prog G0 64 [.l (bytes b)] [] [] (.l (.ptr 0 0)) [Rd.blk ⟨b, false⟩] [] := by
 refine acalls_intro Go.Proofs.Tryd.func64 rfl (by kernel_rfl) Go.Proofs.Tryd.ntmps64 Go.Proofs.Tryd.results64 (by simp) rfl rfl ?_
 try simp only [go_sem]
 refine awp_seq_k fun K1 hK1 => ?_
 refine awp_regionL (by rfl) ?_
 try simp only [go_sem]
 refine hK1 _ _ _ (awp_keep [0] ?_)
 try clear hK1 K1
 try simp only [go_sem]
 refine awp_seq_k fun K2 hK2 => ?_
 refine awp_regionL (by rfl) ?_
 try simp only [go_sem]
 refine app_new rfl rfl (.inl rfl) (by decide) tby5 (by (try simp only [go_sem, List.length_append, List.length_map, bl_length]); first | omega | (simp; done) | (simp; omega)) (by (try simp only [go_sem, List.length_append, List.length_map, bl_length]); first | omega | (simp; done) | (simp; omega)) ?_
 try simp only [go_sem]
 refine hK2 _ _ _ (awp_keep [2] ?_)
 try clear hK2 K2
 try simp only [go_sem]
 refine awp_ret ?_
 try simp only [go_sem]
 try clear hK2 K2
 try clear hK1 K1
 refine ret_x [] (by simp) (by rfl) ?_ (by rfl) ?_ (by rfl) (by simp) (by simp) (by rfl) ?_ <;> ((try simp (disch := omega) only [w_i64, w_u8, w_u16, w_u32, w_u64]); simp only [go_sem]) <;> (first | rfl | omega | trivial | (simp; done) | simp_all)
end

section
attribute [local go_sem] bytes Rd.blk Rd.cells bl_take bl_drop
set_option maxRecDepth 20000 in
set_option maxHeartbeats 8000000 in
theorem octet_Take_ok (r : Rd) (n : Int) (hr : r.rest.length ≤ 1000000000) : ACX Go.Proofs.Tryd.prog G0 67 [.l (.ptr 0 0), .l (.int .i64 n)] [r.blk] [] (.l (bytes (r.take n).1)) [(r.take n).2.blk] [] := by
 refine acalls_intro Go.Proofs.Tryd.func67 rfl (by kernel_rfl) Go.Proofs.Tryd.ntmps67 Go.Proofs.Tryd.results67 (by simp) rfl rfl ?_
 try simp only [go_sem]
 refine awp_seq_k fun K1 hK1 => ?_
 refine awp_regionL (by rfl) ?_
 try simp only [go_sem]
 refine hK1 _ _ _ (awp_keep [0, 1] ?_)
 try clear hK1 K1
 try simp only [go_sem]
 refine awp_seq_k fun K2 hK2 => ?_
 refine awp_seq_k fun K3 hK3 => ?_
 refine awp_regionL (by rfl) ?_
 try simp only [go_sem]
 repeat (refine Must.au ?_; try simp only [go_sem])
 refine hK3 _ _ _ (awp_keep [0, 1, 13] ?_)
 try clear hK3 K3
 try simp only [go_sem]
 refine awp_cond (by rfl) (fun hc0 => ?_) (fun hc0 => ?_)
 ·
  skip
  try simp only [decide_eq_true_eq, decide_eq_false_iff_not, Bool.not_eq_true', Bool.not_eq_false', Bool.and_eq_true, Bool.or_eq_true, Bool.or_eq_false_iff, Bool.and_eq_false_imp] at hc0
  refine awp_seq_k fun K4 hK4 => ?_
  refine awp_regionL (by rfl) ?_
  try simp only [go_sem]
  refine hK4 _ _ _ (awp_keep [4] ?_)
  try clear hK4 K4
  try simp only [go_sem]
  refine awp_ret ?_
  try simp only [go_sem]
  try clear hK4 K4
  try clear hK3 K3
  try clear hK2 K2
  try clear hK1 K1
  refine ret_x [] (by simp) (by rfl) ?_ (by rfl) ?_ (by rfl) (by simp) (by simp) (by rfl) ?_ <;> ((try simp (disch := omega) only [w_i64, w_u8, w_u16, w_u32, w_u64]); simp only [go_sem]) <;> (simp [Rd.take, hc0, bl])
 ·
  skip
  try simp only [decide_eq_true_eq, decide_eq_false_iff_not, Bool.not_eq_true', Bool.not_eq_false', Bool.and_eq_true, Bool.or_eq_true, Bool.or_eq_false_iff, Bool.and_eq_false_imp] at hc0
  refine awp_skip ?_
  try simp only [go_sem]
  refine hK2 _ _ _ (awp_keep [0, 1] ?_)
  try clear hK2 K2
  try simp only [go_sem]
  refine awp_seq_k fun K5 hK5 => ?_
  refine awp_seq_k fun K6 hK6 => ?_
  refine awp_regionL (by rfl) ?_
  try simp only [go_sem]
  repeat (refine Must.au ?_; try simp only [go_sem])
  refine hK6 _ _ _ (awp_keep [0, 1, 24] ?_)
  try clear hK6 K6
  try simp only [go_sem]
  refine awp_cond (by rfl) (fun hc1 => ?_) (fun hc1 => ?_)
  ·
   skip
   try simp only [decide_eq_true_eq, decide_eq_false_iff_not, Bool.not_eq_true', Bool.not_eq_false', Bool.and_eq_true, Bool.or_eq_true, Bool.or_eq_false_iff, Bool.and_eq_false_imp] at hc1
   refine awp_seq_k fun K7 hK7 => ?_
   refine awp_regionL (by rfl) ?_
   try simp only [go_sem]
   refine hK7 _ _ _ (awp_keep [] ?_)
   try clear hK7 K7
   try simp only [go_sem]
   refine awp_seq_k fun K8 hK8 => ?_
   refine awp_regionL (by rfl) ?_
   try simp only [go_sem]
   refine hK8 _ _ _ (awp_keep [4] ?_)
   try clear hK8 K8
   try simp only [go_sem]
   refine awp_ret ?_
   try simp only [go_sem]
   try clear hK8 K8
   try clear hK7 K7
   try clear hK6 K6
   try clear hK5 K5
   try clear hK4 K4
   try clear hK3 K3
   try clear hK2 K2
   try clear hK1 K1
   refine ret_x [] (by simp) (by rfl) ?_ (by rfl) ?_ (by rfl) (by simp) (by simp) (by rfl) ?_ <;> ((try simp (disch := omega) only [w_i64, w_u8, w_u16, w_u32, w_u64]); simp only [go_sem]) <;> (simp only [Rd.take, hc0, hc1]; simp [bl])
  ·
   skip
   try simp only [decide_eq_true_eq, decide_eq_false_iff_not, Bool.not_eq_true', Bool.not_eq_false', Bool.and_eq_true, Bool.or_eq_true, Bool.or_eq_false_iff, Bool.and_eq_false_imp] at hc1
   refine awp_skip ?_
   try simp only [go_sem]
   refine hK5 _ _ _ (awp_keep [0, 1] ?_)
   try clear hK5 K5
   try simp only [go_sem]
   refine awp_seq_k fun K9 hK9 => ?_
   refine awp_regionL (by rfl) ?_
   try simp only [go_sem]
   refine Must.intro (by omega) ?_
   try simp only [go_sem]
   refine app_new rfl rfl (.inl rfl) (by decide) tby5 (by (try simp only [go_sem, List.length_append, List.length_map, bl_length]); first | omega | (simp; done) | (simp; omega)) (by (try simp only [go_sem, List.length_append, List.length_map, bl_length]); first | omega | (simp; done) | (simp; omega)) ?_
   try simp only [go_sem]
   refine hK9 _ _ _ (awp_keep [0, 1, 5] ?_)
   try clear hK9 K9
   try simp only [go_sem]
   refine awp_seq_k fun K10 hK10 => ?_
   refine awp_regionL (by rfl) ?_
   try simp only [go_sem]
   refine Must.intro (by omega) ?_
   try simp only [go_sem]
   refine hK10 _ _ _ (awp_keep [5] ?_)
   try clear hK10 K10
   try simp only [go_sem]
   refine awp_seq_k fun K11 hK11 => ?_
   refine awp_regionL (by rfl) ?_
   try simp only [go_sem]
   refine hK11 _ _ _ (awp_keep [4] ?_)
   try clear hK11 K11
   try simp only [go_sem]
   refine awp_ret ?_
   try simp only [go_sem]
   try clear hK11 K11
   try clear hK10 K10
   try clear hK9 K9
   try clear hK8 K8
   try clear hK7 K7
   try clear hK6 K6
   try clear hK5 K5
   try clear hK4 K4
   try clear hK3 K3
   try clear hK2 K2
   try clear hK1 K1
   refine ret_x [] (by simp) (by rfl) ?_ (by rfl) ?_ (by rfl) (by simp) (by simp) (by rfl) ?_ <;> ((try simp (disch := omega) only [w_i64, w_u8, w_u16, w_u32, w_u64]); simp only [go_sem]) <;> ((have h0 : ¬ (n < 0 ∨ (r.rest.length : Int) < n) := by omega); simp only [Rd.take, hc0, h0]; simp)
end


theorem be_take_succ (l : List Int) (k : Nat) (h : k < l.length) : be (l.take (k + 1)) = bits .or .u32 (IntKind.u32.wrap (be (l.take k) * 2 ^ 8)) (IntKind.u32.wrap l[k]) := by
  simp only [be, List.take_succ_eq_append_getElem h, List.foldl_append, List.foldl_cons, List.foldl_nil]
theorem rd_take_len (r : Rd) (n : Int) : (r.take n).1.length ≤ r.rest.length := by
  unfold Rd.take; split
  · simp
  · split
    · simp
    · simp; omega
theorem rd_take_rest (r : Rd) (n : Int) : (r.take n).2.rest.length ≤ r.rest.length := by
  unfold Rd.take; split
  · simp
  · split
    · simp
    · simp
def Rd.num (r : Rd) (n : Int) : Int := be (r.take n).1

section
attribute [local go_sem] bytes Rd.blk Rd.cells
set_option maxRecDepth 20000 in
set_option maxHeartbeats 8000000 in
theorem octet_number_ok (r : Rd) (n : Int) (hr : r.rest.length ≤ 1000000000) : ACX Go.Proofs.Tryd.prog G0 82 [.l (.ptr 0 0), .l (.int .i64 n)] [r.blk] [] (.l (.int .u32 (r.num n))) [(r.take n).2.blk] [] := by
 refine acalls_intro Go.Proofs.Tryd.func82 rfl (by kernel_rfl) Go.Proofs.Tryd.ntmps82 Go.Proofs.Tryd.results82 (by simp) rfl rfl ?_
 try simp only [go_sem]
 have hl := rd_take_len r n
 refine awp_seq_k fun K1 hK1 => ?_
 refine awp_regionL (by rfl) ?_
 try simp only [go_sem]
 refine hK1 _ _ _ (awp_keep [0, 1] ?_)
 try clear hK1 K1
 try simp only [go_sem]
 refine awp_seq_k fun K2 hK2 => ?_
 refine awp_regionL (by rfl) ?_
 try simp only [go_sem]
 refine hK2 _ _ _ (awp_keep [0, 1, 5] ?_)
 try clear hK2 K2
 try simp only [go_sem]
 refine awp_seq_k fun K3 hK3 => ?_
 refine awp_seq_k fun K4 hK4 => ?_
 refine awp_regionL (by rfl) ?_
 try simp only [go_sem]
 refine acall_xa (octet_Take_ok r n hr) [0] [] ?_
 try simp only [go_sem]
 refine hK4 _ _ _ (awp_keep [5, 10, 11, 12] ?_)
 try clear hK4 K4
 try simp only [go_sem]
 refine awp_block ?_
 refine awp_loopE (α := (Nat)) (fun (k : (Nat)) => k ≤ (r.take n).1.length) (fun (k : (Nat)) => (r.take n).1.length - k) (fun (k : (Nat)) => [(5, .l (.int .u32 (be ((r.take n).1.take k)))), (12, .l (.int .i64 (k : Int)))]) (fun (k : (Nat)) => [(r.take n).2.blk]) (fun (k : (Nat)) => []) [10, 11] 0 [] ?_ ?_ ?_
 ·
  simp only [Lss, go_sem]
  (repeat' apply And.intro) <;> first | rfl | omega | trivial | (simp; done)
 ·
  first | trivial | omega | (simp; done) | (constructor <;> omega)
 rintro k hk K5 hK5
 try simp only [go_sem]
 refine awp_seq_k fun K6 hK6 => ?_
 refine awp_regionL (by rfl) ?_
 try simp only [go_sem]
 refine hK6 _ _ _ (awp_keep [5, 10, 11, 12, 13] ?_)
 try clear hK6 K6
 try simp only [go_sem]
 refine awp_seq_k fun K7 hK7 => ?_
 refine awp_cond (by rfl) (fun hc0 => ?_) (fun hc0 => ?_)
 ·
  skip
  try simp only [decide_eq_true_eq, decide_eq_false_iff_not, Bool.not_eq_true', Bool.not_eq_false', Bool.and_eq_true, Bool.or_eq_true, Bool.or_eq_false_iff, Bool.and_eq_false_imp] at hc0
  refine awp_skip ?_
  try simp only [go_sem]
  refine hK7 _ _ _ (awp_keep [5, 10, 11, 12] ?_)
  try clear hK7 K7
  try simp only [go_sem]
  refine awp_seq_k fun K8 hK8 => ?_
  refine awp_block ?_
  refine awp_seq_k fun K9 hK9 => ?_
  refine awp_regionL (by rfl) ?_
  try simp only [go_sem]
  refine ix_map k rfl (by omega) ?_
  try simp only [go_sem]
  refine hK9 _ _ _ (awp_keep [5, 7, 10, 11, 12] ?_)
  try clear hK9 K9
  try simp only [go_sem]
  refine awp_regionL (by rfl) ?_
  try simp only [go_sem]
  try simp (disch := omega) only [w_i64, w_u8, w_u16, w_u32, w_u64]
  refine hK8 _ _ _ (awp_keep [5, 10, 11, 12] ?_)
  try clear hK8 K8
  try simp only [go_sem]
  refine awp_regionL (by rfl) ?_
  try simp only [go_sem]
  try simp (disch := omega) only [w_i64, w_u8, w_u16, w_u32, w_u64]
  have hs := be_take_succ (r.take n).1 k (by omega)
  refine hK5 _ _ _ ⟨k + 1, [], ?_, ?_⟩
  ·
   (try simp (disch := omega) only [w_i64, w_u8, w_u16, w_u32, w_u64]); simp only [Lss, go_sem]
   (repeat' apply And.intro) <;> first | rfl | omega | trivial | (simp; done)
  ·
   first | omega | (constructor <;> omega) | trivial
 ·
  skip
  try simp only [decide_eq_true_eq, decide_eq_false_iff_not, Bool.not_eq_true', Bool.not_eq_false', Bool.and_eq_true, Bool.or_eq_true, Bool.or_eq_false_iff, Bool.and_eq_false_imp] at hc0
  obtain rfl : k = (r.take n).1.length := by omega
  simp only [List.take_length]
  refine awp_exit ?_
  try simp only [go_sem]
  refine hK3 _ _ _ (awp_keep [5] ?_)
  try clear hK3 K3
  try simp only [go_sem]
  refine awp_seq_k fun K10 hK10 => ?_
  refine awp_regionL (by rfl) ?_
  try simp only [go_sem]
  refine hK10 _ _ _ (awp_keep [4] ?_)
  try clear hK10 K10
  try simp only [go_sem]
  refine awp_ret ?_
  try simp only [go_sem]
  try clear hK10 K10
  try clear hK9 K9
  try clear hK8 K8
  try clear hK7 K7
  try clear hK6 K6
  try clear hK5 K5
  try clear hK4 K4
  try clear hK3 K3
  try clear hK2 K2
  try clear hK1 K1
  refine ret_x [] (by simp) (by rfl) ?_ (by rfl) ?_ (by rfl) (by simp) (by simp) (by rfl) ?_ <;> ((try simp (disch := omega) only [w_i64, w_u8, w_u16, w_u32, w_u64]); simp only [go_sem]) <;> (simp [Rd.num])
end

section
attribute [local go_sem] Rd.blk Rd.cells bytes
set_option maxRecDepth 20000 in
set_option maxHeartbeats 8000000 in
theorem octet_Byte_ok (r : Rd) (hr : r.rest.length ≤ 1000000000) : ACX Go.Proofs.Tryd.prog G0 65 [.l (.ptr 0 0)] [r.blk] [] (.l (.int .i64 (IntKind.i64.wrap (r.num 1)))) [(r.take 1).2.blk] [] := by
 refine acalls_intro Go.Proofs.Tryd.func65 rfl (by kernel_rfl) Go.Proofs.Tryd.ntmps65 Go.Proofs.Tryd.results65 (by simp) rfl rfl ?_
 try simp only [go_sem]
 refine awp_seq_k fun K1 hK1 => ?_
 refine awp_regionL (by rfl) ?_
 try simp only [go_sem]
 refine hK1 _ _ _ (awp_keep [0] ?_)
 try clear hK1 K1
 try simp only [go_sem]
 refine awp_seq_k fun K2 hK2 => ?_
 refine awp_regionL (by rfl) ?_
 try simp only [go_sem]
 refine acall_xa (octet_number_ok r 1 hr) [0] [] ?_
 try simp only [go_sem]
 try simp (disch := omega) only [w_i64, w_u8, w_u16, w_u32, w_u64]
 refine hK2 _ _ _ (awp_keep [2] ?_)
 try clear hK2 K2
 try simp only [go_sem]
 refine awp_ret ?_
 try simp only [go_sem]
 try clear hK2 K2
 try clear hK1 K1
 refine ret_x [] (by simp) (by rfl) ?_ (by rfl) ?_ (by rfl) (by simp) (by simp) (by rfl) ?_ <;> ((try simp (disch := omega) only [w_i64, w_u8, w_u16, w_u32, w_u64]); simp only [go_sem]) <;> (first | rfl | omega | trivial | (simp; done) | simp_all)
end

section
attribute [local go_sem] Rd.blk Rd.cells bytes
set_option maxRecDepth 20000 in
set_option maxHeartbeats 8000000 in
theorem octet_U16_ok (r : Rd) (hr : r.rest.length ≤ 1000000000) : ACX Go.Proofs.Tryd.prog G0 66 [.l (.ptr 0 0)] [r.blk] [] (.l (.int .i64 (IntKind.i64.wrap (r.num 2)))) [(r.take 2).2.blk] [] := by
 refine acalls_intro Go.Proofs.Tryd.func66 rfl (by kernel_rfl) Go.Proofs.Tryd.ntmps66 Go.Proofs.Tryd.results66 (by simp) rfl rfl ?_
 try simp only [go_sem]
 refine awp_seq_k fun K1 hK1 => ?_
 refine awp_regionL (by rfl) ?_
 try simp only [go_sem]
 refine hK1 _ _ _ (awp_keep [0] ?_)
 try clear hK1 K1
 try simp only [go_sem]
 refine awp_seq_k fun K2 hK2 => ?_
 refine awp_regionL (by rfl) ?_
 try simp only [go_sem]
 refine acall_xa (octet_number_ok r 2 hr) [0] [] ?_
 try simp only [go_sem]
 try simp (disch := omega) only [w_i64, w_u8, w_u16, w_u32, w_u64]
 refine hK2 _ _ _ (awp_keep [2] ?_)
 try clear hK2 K2
 try simp only [go_sem]
 refine awp_ret ?_
 try simp only [go_sem]
 try clear hK2 K2
 try clear hK1 K1
 refine ret_x [] (by simp) (by rfl) ?_ (by rfl) ?_ (by rfl) (by simp) (by simp) (by rfl) ?_ <;> ((try simp (disch := omega) only [w_i64, w_u8, w_u16, w_u32, w_u64]); simp only [go_sem]) <;> (first | rfl | omega | trivial | (simp; done) | simp_all)
end

section
attribute [local go_sem] Rd.blk Rd.cells bytes
set_option maxRecDepth 20000 in
set_option maxHeartbeats 8000000 in
theorem octet_U32_ok (r : Rd) (hr : r.rest.length ≤ 1000000000) : ACX Go.Proofs.Tryd.prog G0 75 [.l (.ptr 0 0)] [r.blk] [] (.l (.int .u32 (r.num 4))) [(r.take 4).2.blk] [] := by
 refine acalls_intro Go.Proofs.Tryd.func75 rfl (by kernel_rfl) Go.Proofs.Tryd.ntmps75 Go.Proofs.Tryd.results75 (by simp) rfl rfl ?_
 try simp only [go_sem]
 refine awp_seq_k fun K1 hK1 => ?_
 refine awp_regionL (by rfl) ?_
 try simp only [go_sem]
 refine hK1 _ _ _ (awp_keep [0] ?_)
 try clear hK1 K1
 try simp only [go_sem]
 refine awp_seq_k fun K2 hK2 => ?_
 refine awp_regionL (by rfl) ?_
 try simp only [go_sem]
 refine acall_xa (octet_number_ok r 4 hr) [0] [] ?_
 try simp only [go_sem]
 refine hK2 _ _ _ (awp_keep [2] ?_)
 try clear hK2 K2
 try simp only [go_sem]
 refine awp_ret ?_
 try simp only [go_sem]
 try clear hK2 K2
 try clear hK1 K1
 refine ret_x [] (by simp) (by rfl) ?_ (by rfl) ?_ (by rfl) (by simp) (by simp) (by rfl) ?_ <;> ((try simp (disch := omega) only [w_i64, w_u8, w_u16, w_u32, w_u64]); simp only [go_sem]) <;> (first | rfl | omega | trivial | (simp; done) | simp_all)
end

section
attribute [local go_sem] Rd.blk Rd.cells bytes
set_option maxRecDepth 20000 in
set_option maxHeartbeats 8000000 in
theorem octet_Err_ok (r : Rd) : ACX Go.Proofs.Tryd.prog G0 68 [.l (.ptr 0 0)] [r.blk] [] (.l (.int .i64 (if r.short then 3 else 0))) [r.blk] [] := by
 refine acalls_intro Go.Proofs.Tryd.func68 rfl (by kernel_rfl) Go.Proofs.Tryd.ntmps68 Go.Proofs.Tryd.results68 (by simp) rfl rfl ?_
 try simp only [go_sem]
 refine awp_seq_k fun K1 hK1 => ?_
 refine awp_regionL (by rfl) ?_
 try simp only [go_sem]
 refine hK1 _ _ _ (awp_keep [0] ?_)
 try clear hK1 K1
 try simp only [go_sem]
 refine awp_seq_k fun K2 hK2 => ?_
 refine awp_block ?_
 refine awp_seq_k fun K3 hK3 => ?_
 refine awp_regionL (by rfl) ?_
 try simp only [go_sem]
 refine hK3 _ _ _ (awp_keep [0, 3] ?_)
 try clear hK3 K3
 try simp only [go_sem]
 refine awp_cond (by rfl) (fun hc0 => ?_) (fun hc0 => ?_)
 ·
  skip
  exact absurd hc0 (by simp)
 ·
  skip
  try simp only [decide_eq_true_eq, decide_eq_false_iff_not, Bool.not_eq_true', Bool.not_eq_false', Bool.and_eq_true, Bool.or_eq_true, Bool.or_eq_false_iff, Bool.and_eq_false_imp] at hc0
  refine awp_seq_k fun K4 hK4 => ?_
  refine awp_regionL (by rfl) ?_
  try simp only [go_sem]
  refine hK4 _ _ _ (awp_keep [6] ?_)
  try clear hK4 K4
  try simp only [go_sem]
  refine awp_cond (by rfl) (fun hc1 => ?_) (fun hc1 => ?_)
  ·
   skip
   try simp only [decide_eq_true_eq, decide_eq_false_iff_not, Bool.not_eq_true', Bool.not_eq_false', Bool.and_eq_true, Bool.or_eq_true, Bool.or_eq_false_iff, Bool.and_eq_false_imp] at hc1
   refine awp_seq_k fun K5 hK5 => ?_
   refine awp_regionL (by rfl) ?_
   try simp only [go_sem]
   refine hK5 _ _ _ (awp_keep [2] ?_)
   try clear hK5 K5
   try simp only [go_sem]
   refine awp_ret ?_
   try simp only [go_sem]
   try clear hK5 K5
   try clear hK4 K4
   try clear hK3 K3
   try clear hK2 K2
   try clear hK1 K1
   refine ret_x [] (by simp) (by rfl) ?_ (by rfl) ?_ (by rfl) (by simp) (by simp) (by rfl) ?_ <;> ((try simp (disch := omega) only [w_i64, w_u8, w_u16, w_u32, w_u64]); simp only [go_sem]) <;> (simp [*])
  ·
   skip
   try simp only [decide_eq_true_eq, decide_eq_false_iff_not, Bool.not_eq_true', Bool.not_eq_false', Bool.and_eq_true, Bool.or_eq_true, Bool.or_eq_false_iff, Bool.and_eq_false_imp] at hc1
   refine awp_skip ?_
   try simp only [go_sem]
   refine hK2 _ _ _ (awp_keep [] ?_)
   try clear hK2 K2
   try simp only [go_sem]
   refine awp_seq_k fun K6 hK6 => ?_
   refine awp_regionL (by rfl) ?_
   try simp only [go_sem]
   refine hK6 _ _ _ (awp_keep [2] ?_)
   try clear hK6 K6
   try simp only [go_sem]
   refine awp_ret ?_
   try simp only [go_sem]
   try clear hK6 K6
   try clear hK5 K5
   try clear hK4 K4
   try clear hK3 K3
   try clear hK2 K2
   try clear hK1 K1
   refine ret_x [] (by simp) (by rfl) ?_ (by rfl) ?_ (by rfl) (by simp) (by simp) (by rfl) ?_ <;> ((try simp (disch := omega) only [w_i64, w_u8, w_u16, w_u32, w_u64]); simp only [go_sem]) <;> (simp [*])
end

section
attribute [local go_sem] Rd.blk Rd.cells bytes
set_option maxRecDepth 20000 in
set_option maxHeartbeats 8000000 in
theorem octet_Left_ok (r : Rd) : ACX Go.Proofs.Tryd.prog G0 69 [.l (.ptr 0 0)] [r.blk] [] (.l (.int .i64 (if r.short then 0 else r.rest.length))) [r.blk] [] := by
 refine acalls_intro Go.Proofs.Tryd.func69 rfl (by kernel_rfl) Go.Proofs.Tryd.ntmps69 Go.Proofs.Tryd.results69 (by simp) rfl rfl ?_
 try simp only [go_sem]
 refine awp_seq_k fun K1 hK1 => ?_
 refine awp_regionL (by rfl) ?_
 try simp only [go_sem]
 refine hK1 _ _ _ (awp_keep [0] ?_)
 try clear hK1 K1
 try simp only [go_sem]
 refine awp_seq_k fun K2 hK2 => ?_
 refine awp_seq_k fun K3 hK3 => ?_
 refine awp_regionL (by rfl) ?_
 try simp only [go_sem]
 repeat (refine Must.au ?_; try simp only [go_sem])
 refine hK3 _ _ _ (awp_keep [0, 10] ?_)
 try clear hK3 K3
 try simp only [go_sem]
 refine awp_cond (by rfl) (fun hc0 => ?_) (fun hc0 => ?_)
 ·
  skip
  try simp only [decide_eq_true_eq, decide_eq_false_iff_not, Bool.not_eq_true', Bool.not_eq_false', Bool.and_eq_true, Bool.or_eq_true, Bool.or_eq_false_iff, Bool.and_eq_false_imp] at hc0
  refine awp_seq_k fun K4 hK4 => ?_
  refine awp_regionL (by rfl) ?_
  try simp only [go_sem]
  refine hK4 _ _ _ (awp_keep [2] ?_)
  try clear hK4 K4
  try simp only [go_sem]
  refine awp_ret ?_
  try simp only [go_sem]
  try clear hK4 K4
  try clear hK3 K3
  try clear hK2 K2
  try clear hK1 K1
  refine ret_x [] (by simp) (by rfl) ?_ (by rfl) ?_ (by rfl) (by simp) (by simp) (by rfl) ?_ <;> ((try simp (disch := omega) only [w_i64, w_u8, w_u16, w_u32, w_u64]); simp only [go_sem]) <;> (simp [*])
 ·
  skip
  try simp only [decide_eq_true_eq, decide_eq_false_iff_not, Bool.not_eq_true', Bool.not_eq_false', Bool.and_eq_true, Bool.or_eq_true, Bool.or_eq_false_iff, Bool.and_eq_false_imp] at hc0
  refine awp_skip ?_
  try simp only [go_sem]
  refine hK2 _ _ _ (awp_keep [0] ?_)
  try clear hK2 K2
  try simp only [go_sem]
  refine awp_seq_k fun K5 hK5 => ?_
  refine awp_regionL (by rfl) ?_
  try simp only [go_sem]
  refine hK5 _ _ _ (awp_keep [2] ?_)
  try clear hK5 K5
  try simp only [go_sem]
  refine awp_ret ?_
  try simp only [go_sem]
  try clear hK5 K5
  try clear hK4 K4
  try clear hK3 K3
  try clear hK2 K2
  try clear hK1 K1
  refine ret_x [] (by simp) (by rfl) ?_ (by rfl) ?_ (by rfl) (by simp) (by simp) (by rfl) ?_ <;> ((try simp (disch := omega) only [w_i64, w_u8, w_u16, w_u32, w_u64]); simp only [go_sem]) <;> (simp [*])
end

end Go.Abs
