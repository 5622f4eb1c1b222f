/-
  NUMBERS AS BYTES, 2: what the program and the document's answer put.
-/
import Derived.Test.YtajeoodipplmlaaDoorT2
import Derived.Test.YtajeoodipplmlaaDoorAbs24
import Derived.Laws.BitsLemmas
set_option linter.all false
namespace Go.Abs
open Go Go.Proofs
def i64r (n : Int) : Prop := -9223372036854775808 ≤ n ∧ n ≤ 9223372036854775807
def u32r (n : Int) : Prop := 0 ≤ n ∧ n < 4294967296
def put16S (n : Int) : List Int := [n % 65536 / 256, n % 256]
def put32S (n : Int) : List Int := put16S (n / 65536) ++ put16S (n % 65536)
@[simp, go_sem] theorem put16S_length (n : Int) : (put16S n).length = 2 := rfl
@[simp, go_sem] theorem put32S_length (n : Int) : (put32S n).length = 4 := rfl
theorem and_low (n : Int) (i : Nat) (hi : i < 64) : bits .and .i64 n ((2 ^ i - 1 : Nat) : Int) = n % 2 ^ i := by
  have hpos : 0 < 2 ^ i := Nat.two_pow_pos i
  have hp : 2 ^ i ≤ 2 ^ 63 := Nat.pow_le_pow_right (by decide) (by omega)
  have h1 : (2 ^ i - 1) % 2 ^ 64 = 2 ^ i - 1 := Nat.mod_eq_of_lt (by omega)
  have h2 : ((n % 2 ^ 64).toNat : Int) = n % 2 ^ 64 := Int.toNat_of_nonneg (Int.emod_nonneg _ (by decide))
  have h3 : ((2 ^ i : Nat) : Int) ∣ 2 ^ 64 := by exact_mod_cast Nat.pow_dvd_pow 2 (show i ≤ 64 by omega)
  have key : (((n % 2 ^ 64).toNat % 2 ^ i : Nat) : Int) = n % 2 ^ i := by
    rw [Int.natCast_emod, h2, Int.emod_emod_of_dvd _ h3]; simp
  have hlt : (n % 2 ^ 64).toNat % 2 ^ i < 2 ^ 63 := Nat.lt_of_lt_of_le (Nat.mod_lt _ hpos) hp
  simp only [bits, BitVec.ofInt_natCast, BitVec.toNat_and, BitVec.toNat_ofNat, BitVec.toNat_ofInt]
  show IntKind.i64.wrap (((n % ((2 ^ 64 : Nat) : Int)).toNat &&& (2 ^ i - 1) % 2 ^ 64 : Nat) : Int) = _
  have h4 : ((2 ^ 64 : Nat) : Int) = 2 ^ 64 := by simp
  rw [h4, h1, Nat.and_two_pow_sub_one_eq_mod, key]
  have h5 : (0 : Int) ≤ n % 2 ^ i := by rw [← key]; omega
  have h6 : n % 2 ^ i < 9223372036854775808 := by rw [← key]; omega
  rw [IntKind.wrap_i64]
  omega
theorem and16 (n : Int) : bits .and .i64 n 65535 = n % 65536 := and_low n 16 (by decide)
theorem and32 (n : Int) : bits .and .i64 n 4294967295 = n % 4294967296 := and_low n 32 (by decide)
theorem putS16 (n : Int) : putS .u16 (IntKind.u16.wrap (bits .and .i64 n 65535)) 2 2 = put16S n := by
  rw [and16]
  have h : IntKind.u16.wrap (n % 65536) = n % 65536 := w_u16 (by omega) (by omega)
  rw [h]
  have e1 : (n % 65536).fdiv (2 ^ min (8 * 1) IntKind.u16.bits) = n % 65536 / 256 := Int.fdiv_eq_ediv_of_nonneg _ (by decide)
  have e2 : (n % 65536).fdiv (2 ^ min (8 * 0) IntKind.u16.bits) = n % 65536 / 1 := Int.fdiv_eq_ediv_of_nonneg _ (by decide)
  simp only [putS, List.range, List.range.loop, List.map_cons, List.map_nil, shb, Nat.reduceSub, e1, e2, put16S, IntKind.wrap_u8, List.cons.injEq, and_true]
  constructor <;> omega
theorem putS32 (n : Int) (h0 : 0 ≤ n) (h1 : n < 4294967296) : putS .u32 n 4 4 = put32S n := by
  have e3 : n.fdiv (2 ^ min (8 * 3) IntKind.u32.bits) = n / 16777216 := Int.fdiv_eq_ediv_of_nonneg _ (by decide)
  have e2 : n.fdiv (2 ^ min (8 * 2) IntKind.u32.bits) = n / 65536 := Int.fdiv_eq_ediv_of_nonneg _ (by decide)
  have e1 : n.fdiv (2 ^ min (8 * 1) IntKind.u32.bits) = n / 256 := Int.fdiv_eq_ediv_of_nonneg _ (by decide)
  have e0 : n.fdiv (2 ^ min (8 * 0) IntKind.u32.bits) = n / 1 := Int.fdiv_eq_ediv_of_nonneg _ (by decide)
  simp only [putS, List.range, List.range.loop, List.map_cons, List.map_nil, shb, Nat.reduceSub, e0, e1, e2, e3, Int.ediv_one, put32S, put16S, List.cons_append, List.nil_append, IntKind.wrap_u8, List.cons.injEq, and_true]
  refine ⟨?_, ?_, ?_, ?_⟩ <;> first | trivial | omega
theorem oct16_ok (b : List Int) (n : Int) (hb : b.length ≤ 1000000000) : ACX Go.Proofs.Tryd.prog G0 40 [.l (bytes b), .l (.int .i64 n)] [] [] (.l (.slice (.row 0) 1 (bl (b ++ put16S n)))) [] [(5, b.length + 2)] := by
  have := octet_Put16_ok b n hb
  rw [putS16] at this
  exact this
theorem oct32_ok (b : List Int) (n : Int) (hb : b.length ≤ 1000000000) (h0 : 0 ≤ n) (h1 : n < 4294967296) : ACX Go.Proofs.Tryd.prog G0 42 [.l (bytes b), .l (.int .u32 n)] [] [] (.l (.slice (.row 0) 1 (bl (b ++ put32S n)))) [] [(5, b.length + 4)] := by
  have := octet_Put32_ok b n hb
  rw [putS32 n h0 h1] at this
  exact this
theorem put16_ref (b : List Int) (n : Int) : bl b ++ [[.int .u8 (IntKind.u8.wrap (IntKind.i64.wrap ((n % 65536).tdiv 256)))]] ++ [[.int .u8 (IntKind.u8.wrap ((n % 65536).tmod 256))]] = bl (b ++ put16S n) := by
  have e1 : (n % 65536).tdiv 256 = n % 65536 / 256 := Int.tdiv_eq_ediv_of_nonneg (by omega)
  have e2 : (n % 65536).tmod 256 = n % 65536 % 256 := Int.tmod_eq_emod_of_nonneg (by omega)
  have h1 : IntKind.u8.wrap (IntKind.i64.wrap ((n % 65536).tdiv 256)) = n % 65536 / 256 := by rw [e1, w_i64 (by omega) (by omega), IntKind.wrap_u8]; omega
  have h2 : IntKind.u8.wrap ((n % 65536).tmod 256) = n % 256 := by rw [e2, IntKind.wrap_u8]; omega
  rw [h1, h2, bl_snoc, bl_snoc, List.append_assoc]; rfl
theorem tmod_neg {n : Int} (h : n.tmod 65536 < 0) : IntKind.i64.wrap (n.tmod 65536 + 65536) = n % 65536 := by
  have h1 := Int.tmod_eq_emod (a := n) (b := 65536)
  rw [w_i64 (by split at h1 <;> omega) (by omega)]
  split at h1 <;> omega
theorem tmod_pos {n : Int} (h : ¬ n.tmod 65536 < 0) : n.tmod 65536 = n % 65536 := by
  have h1 := Int.tmod_eq_emod (a := n) (b := 65536)
  split at h1 <;> omega

section
attribute [local go_sem] bytes bl_length List.length_append
set_option maxRecDepth 20000 in
set_option maxHeartbeats 8000000 in
theorem ref01_Put16_ok (b : List Int) (n : Int) (hb : b.length ≤ 1000000000) : ACX Go.Proofs.Tryd.prog G0 48 [.l (bytes b), .l (.int .i64 n)] [] [] (.l (.slice (.row 0) 1 (bl (b ++ put16S n)))) [] [(5, b.length + 2)] := by
 refine acalls_intro Go.Proofs.Tryd.func48 rfl (by kernel_rfl) Go.Proofs.Tryd.ntmps48 Go.Proofs.Tryd.results48 (by simp) rfl rfl ?_
 try simp only [go_sem]
 refine awp_seq_k fun K1 hK1 => ?_
 refine awp_regionL (by rfl) ?_
 try simp only [go_sem]
 refine hK1 _ _ _ (awp_keep [0, 1] ?_)
 try clear hK1 K1
 try simp only [go_sem]
 refine awp_seq_k fun K2 hK2 => ?_
 refine awp_regionL (by rfl) ?_
 try simp only [go_sem]
 refine hK2 _ _ _ (awp_keep [0, 5] ?_)
 try clear hK2 K2
 try simp only [go_sem]
 refine awp_joinE (α := Unit) (fun (_u : Unit) => True) (fun (_u : Unit) => [(5, .l (.int .i64 (n % 65536)))]) (fun (_u : Unit) => []) (fun (_u : Unit) => []) [0] (fun K3 hK3 => ?_) ?_
 ·
  skip
  refine awp_seq_k fun K4 hK4 => ?_
  refine awp_regionL (by rfl) ?_
  try simp only [go_sem]
  refine hK4 _ _ _ (awp_keep [0, 5, 10] ?_)
  try clear hK4 K4
  try simp only [go_sem]
  refine awp_cond (by rfl) (fun hc0 => ?_) (fun hc0 => ?_)
  ·
   skip
   try simp only [decide_eq_true_eq, decide_eq_false_iff_not, Bool.not_eq_true', Bool.not_eq_false', Bool.and_eq_true, Bool.or_eq_true, Bool.or_eq_false_iff, Bool.and_eq_false_imp] at hc0
   refine awp_regionL (by rfl) ?_
   try simp only [go_sem]
   try simp (disch := omega) only [w_i64, w_u8, w_u16, w_u32, w_u64]
   refine hK3 _ _ _ ⟨(), [], ?_, ?_⟩
   ·
    (try simp (disch := omega) only [w_i64, w_u8, w_u16, w_u32, w_u64]); simp only [Lss, go_sem]
    first | exact ⟨tmod_neg hc0, rfl⟩ | exact ⟨tmod_pos hc0, rfl⟩
    all_goals first | rfl | omega | trivial
   ·
    trivial
  ·
   skip
   try simp only [decide_eq_true_eq, decide_eq_false_iff_not, Bool.not_eq_true', Bool.not_eq_false', Bool.and_eq_true, Bool.or_eq_true, Bool.or_eq_false_iff, Bool.and_eq_false_imp] at hc0
   refine awp_skip ?_
   try simp only [go_sem]
   refine hK3 _ _ _ ⟨(), [], ?_, ?_⟩
   ·
    (try simp (disch := omega) only [w_i64, w_u8, w_u16, w_u32, w_u64]); simp only [Lss, go_sem]
    first | exact ⟨tmod_neg hc0, rfl⟩ | exact ⟨tmod_pos hc0, rfl⟩
    all_goals first | rfl | omega | trivial
   ·
    trivial
 ·
  rintro _u hj
  try simp only [go_sem]
  refine awp_seq_k fun K5 hK5 => ?_
  refine awp_regionL (by rfl) ?_
  try simp only [go_sem]
  refine hK5 _ _ _ (awp_keep [0, 5, 6] ?_)
  try clear hK5 K5
  try simp only [go_sem]
  refine awp_seq_k fun K6 hK6 => ?_
  refine awp_regionL (by rfl) ?_
  try simp only [go_sem]
  refine app_new rfl rfl (.inl rfl) (by decide) tby5 (by (try simp only [go_sem, List.length_append, List.length_map, bl_length]); first | omega | (simp; done) | (simp; omega)) (by (try simp only [go_sem, List.length_append, List.length_map, bl_length]); first | omega | (simp; done) | (simp; omega)) ?_
  try simp only [go_sem]
  refine hK6 _ _ _ (awp_keep [5, 6] ?_)
  try clear hK6 K6
  try simp only [go_sem]
  refine awp_seq_k fun K7 hK7 => ?_
  refine awp_regionL (by rfl) ?_
  try simp only [go_sem]
  try simp (disch := omega) only [w_i64, w_u8, w_u16, w_u32, w_u64]
  refine app_row rfl rfl rfl (by first | rfl | (simp only [go_sem, List.length_append, List.length_map, bl_length]; done) | (simp; done) | (simp; omega)) rfl (.inl rfl) (by decide) tby5 (by (try simp only [go_sem, List.length_append, List.length_map, bl_length]); first | omega | (simp; done) | (simp; omega)) (by (try simp only [go_sem, List.length_append, List.length_map, bl_length]); first | omega | (simp; done) | (simp; omega)) ?_
  try simp only [go_sem]
  try simp (disch := omega) only [w_i64, w_u8, w_u16, w_u32, w_u64]
  refine hK7 _ _ _ (awp_keep [5, 6] ?_)
  try clear hK7 K7
  try simp only [go_sem]
  refine awp_seq_k fun K8 hK8 => ?_
  refine awp_regionL (by rfl) ?_
  try simp only [go_sem]
  try simp (disch := omega) only [w_i64, w_u8, w_u16, w_u32, w_u64]
  refine app_row rfl rfl rfl (by first | rfl | (simp only [go_sem, List.length_append, List.length_map, bl_length]; done) | (simp; done) | (simp; omega)) rfl (.inl rfl) (by decide) tby5 (by (try simp only [go_sem, List.length_append, List.length_map, bl_length]); first | omega | (simp; done) | (simp; omega)) (by (try simp only [go_sem, List.length_append, List.length_map, bl_length]); first | omega | (simp; done) | (simp; omega)) ?_
  try simp only [go_sem]
  try simp (disch := omega) only [w_i64, w_u8, w_u16, w_u32, w_u64]
  refine hK8 _ _ _ (awp_keep [6] ?_)
  try clear hK8 K8
  try simp only [go_sem]
  refine awp_seq_k fun K9 hK9 => ?_
  refine awp_regionL (by rfl) ?_
  try simp only [go_sem]
  refine hK9 _ _ _ (awp_keep [4] ?_)
  try clear hK9 K9
  try simp only [go_sem]
  refine awp_ret ?_
  try simp only [go_sem]
  try clear hK9 K9
  try clear hK8 K8
  try clear hK7 K7
  try clear hK6 K6
  try clear hK5 K5
  try clear hK4 K4
  try clear hK3 K3
  try clear hK2 K2
  try clear hK1 K1
  refine ret_x [0] (by simp) (by rfl) ?_ (by rfl) ?_ (by rfl) (by simp) (by simp) (by rfl) ?_ <;> ((try simp (disch := omega) only [w_i64, w_u8, w_u16, w_u32, w_u64]); simp only [go_sem]) <;> (first | (exact put16_ref b n) | omega)
end

theorem put32_ref {n : Int} (h0 : 0 ≤ n) (h1 : n < 4294967296) : put16S (IntKind.i64.wrap (IntKind.u32.wrap (n.tdiv 65536))) ++ put16S (IntKind.i64.wrap (n.tmod 65536)) = put32S n := by
  have e1 : n.tdiv 65536 = n / 65536 := Int.tdiv_eq_ediv_of_nonneg h0
  have e2 : n.tmod 65536 = n % 65536 := Int.tmod_eq_emod_of_nonneg h0
  rw [e1, e2, w_u32 (by omega) (by omega), w_i64 (by omega) (by omega), w_i64 (by omega) (by omega)]; rfl

section
attribute [local go_sem] bytes bl_length List.length_append put16S_length
set_option maxRecDepth 20000 in
set_option maxHeartbeats 8000000 in
theorem ref01_Put32_ok (b : List Int) (n : Int) (hb : b.length ≤ 100000000) (h0 : 0 ≤ n) (h1 : n < 4294967296) : ACX Go.Proofs.Tryd.prog G0 47 [.l (bytes b), .l (.int .u32 n)] [] [] (.l (.slice (.row 0) 1 (bl (b ++ put32S n)))) [] [(5, b.length + 4)] := by
 refine acalls_intro Go.Proofs.Tryd.func47 rfl (by kernel_rfl) Go.Proofs.Tryd.ntmps47 Go.Proofs.Tryd.results47 (by simp) rfl rfl ?_
 try simp only [go_sem]
 refine awp_seq_k fun K1 hK1 => ?_
 refine awp_regionL (by rfl) ?_
 try simp only [go_sem]
 refine hK1 _ _ _ (awp_keep [0, 1] ?_)
 try clear hK1 K1
 try simp only [go_sem]
 refine awp_seq_k fun K2 hK2 => ?_
 refine awp_regionL (by rfl) ?_
 try simp only [go_sem]
 refine acall_pa (acx_read (ref01_Put16_ok b (IntKind.i64.wrap (IntKind.u32.wrap (n.tdiv 65536))) (by omega))) ?_
 try simp only [go_sem]
 refine acall_xa (ref01_Put16_ok (b ++ put16S (IntKind.i64.wrap (IntKind.u32.wrap (n.tdiv 65536)))) (IntKind.i64.wrap (n.tmod 65536)) (by simp; omega)) [] [] ?_
 try simp only [go_sem]
 refine hK2 _ _ _ (awp_keep [4] ?_)
 try clear hK2 K2
 try simp only [go_sem]
 refine awp_ret ?_
 try simp only [go_sem]
 try clear hK2 K2
 try clear hK1 K1
 refine ret_x [0] (by simp) (by rfl) ?_ (by rfl) ?_ (by rfl) (by simp) (by simp) (by rfl) ?_ <;> ((try simp (disch := omega) only [w_i64, w_u8, w_u16, w_u32, w_u64]); simp only [go_sem]) <;> (first | (rw [List.append_assoc, put32_ref h0 h1]; done) | rfl | omega | trace_state)
end

end Go.Abs
