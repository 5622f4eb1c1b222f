/-
  READING ATTRIBUTES, 2: a path of bytes.
-/
import Derived.Test.YtajeoodipplmlaaDoorT20
import Derived.Test.YtajeoodipplmlaaDoorT7
import Derived.Test.YtajeoodipplmlaaDoorAbs26
import Derived.Laws.Closers25b
set_option linter.all false
namespace Go.Abs
open Go Go.Proofs
theorem be_range (l : List Int) : 0 ≤ be l ∧ be l ≤ 4294967295 := by
  rcases List.eq_nil_or_concat l with rfl | ⟨l', x, rfl⟩
  · exact ⟨by decide, by decide⟩
  · simp only [be, List.concat_eq_append, List.foldl_append, List.foldl_cons, List.foldl_nil]
    exact ⟨bits_lo_u32 _ _ _, bits_hi_u32 _ _ _⟩
theorem num_range (r : Rd) (n : Int) : 0 ≤ r.num n ∧ r.num n ≤ 4294967295 := be_range _
def Rd.left (r : Rd) : Int := if r.short then 0 else r.rest.length
def rdNum (w : Bool) (r : Rd) : Int := if w then r.num 4 else IntKind.u32.wrap (IntKind.i64.wrap (r.num 2))
def rdAft (w : Bool) (r : Rd) : Rd := if w then (r.take 4).2 else (r.take 2).2
def rdNums (w : Bool) : Nat → List Int → Rd → List Int × Rd
  | 0, l, r => (l, r)
  | m + 1, l, r => if r.short then (l, r) else rdNums w m (l ++ [rdNum w r]) (rdAft w r)
theorem rdNums_end {w : Bool} {m : Nat} {l : List Int} {r : Rd} (h : m = 0 ∨ r.short = true) : rdNums w m l r = (l, r) := by
  rcases h with rfl | h
  · rfl
  · cases m <;> simp [rdNums, h]
def sgK (r : Rd) : Int := IntKind.i64.wrap (r.num 1)
def sgN (r : Rd) : Int := IntKind.i64.wrap ((r.take 1).2.num 1)
def sgR (r : Rd) : Rd := ((r.take 1).2.take 1).2
theorem sgN_eq (r : Rd) : sgN r = (r.take 1).2.num 1 := by
  have := num_range (r.take 1).2 1
  exact w_i64 (by omega) (by omega)
theorem sgN_nat (r : Rd) : ((sgN r).toNat : Int) = sgN r := by
  have := num_range (r.take 1).2 1
  rw [sgN_eq]; omega
theorem sgN_hi (r : Rd) : sgN r ≤ 4294967295 := by
  have := num_range (r.take 1).2 1
  rw [sgN_eq]; omega
theorem sgR_le (r : Rd) : (sgR r).rest.length ≤ r.rest.length := Nat.le_trans (rd_take_rest _ 1) (rd_take_rest r 1)
def rdSegs (w : Bool) : Nat → List Seg → Rd → List Seg × Rd
  | 0, out, r => (out, r)
  | m + 1, out, r => if r.left ≤ 0 then (out, r) else rdSegs w m (out ++ [⟨sgK r, (rdNums w (sgN r).toNat [] (sgR r)).1⟩]) (rdNums w (sgN r).toNat [] (sgR r)).2
theorem rdSegs_end {w : Bool} {m : Nat} {out : List Seg} {r : Rd} (h : m = 0 ∨ r.left ≤ 0) : rdSegs w m out r = (out, r) := by
  rcases h with rfl | h
  · rfl
  · cases m <;> simp [rdSegs, h]
theorem rdSegs_step {w : Bool} {m : Nat} {out : List Seg} {r : Rd} (h : ¬ r.left ≤ 0) : rdSegs w (m + 1) out r = rdSegs w m (out ++ [⟨sgK r, (rdNums w (sgN r).toNat [] (sgR r)).1⟩]) (rdNums w (sgN r).toNat [] (sgR r)).2 := by
  rw [rdSegs, if_neg h]
theorem sgl_snoc (l : List Seg) (s : Seg) : sgl l ++ [[.int .i64 s.kind, .slice .shared 1 (ul s.nums)]] = sgl (l ++ [s]) := by simp [sgl, Seg.cells, u32s]
def rdPath (w : Bool) (b : List Int) : List Seg × Rd := rdSegs w 9 [] ⟨b, false⟩
def pathOk (w : Bool) (b : List Int) : Bool := !(rdPath w b).2.short && pathRight (rdPath w b).1
theorem rd_aft (w : Bool) (r : Rd) (h : r.short = false) : (rdAft w r).rest.length ≤ r.rest.length ∧ ((rdAft w r).short = false → (rdAft w r).rest.length + 2 ≤ r.rest.length) := by
  have key : ∀ n : Int, 2 ≤ n → (r.take n).2.rest.length ≤ r.rest.length ∧ ((r.take n).2.short = false → (r.take n).2.rest.length + 2 ≤ r.rest.length) := by
    intro n hn
    refine ⟨rd_take_rest r n, fun hs => ?_⟩
    unfold Rd.take at hs ⊢
    rw [h] at hs ⊢
    simp only [Bool.false_eq_true, if_false] at hs ⊢
    split at hs
    · cases hs
    · rename_i hc
      rw [if_neg hc]
      simp only [List.length_drop]
      omega
  unfold rdAft
  split
  · exact key 4 (by decide)
  · exact key 2 (by decide)
/-- How long what was read may be. -/
def Room (b : List Int) (l : List Int) (r : Rd) : Prop := r.rest.length ≤ b.length ∧ l.length ≤ b.length + 1 ∧ (r.short = false → l.length + r.rest.length ≤ b.length)
theorem Room.step {b l : List Int} {r : Rd} (w : Bool) (h : Room b l r) (hs : r.short = false) (x : Int) : Room b (l ++ [x]) (rdAft w r) := by
  obtain ⟨h1, h2, h3⟩ := h
  obtain ⟨k1, k2⟩ := rd_aft w r hs
  have h3 := h3 hs
  refine ⟨by omega, by simp; omega, fun hn => ?_⟩
  have := k2 hn
  simp; omega

section
attribute [local go_sem] bytes segs Seg.cells u32s Rd.blk Rd.cells
set_option maxRecDepth 20000 in
set_option maxHeartbeats 8000000 in
theorem aspath_Read_ok (b : List Int) (w : Bool) (hb : b.length ≤ 1000000) : ACX Go.Proofs.Tryd.prog G0 74 [.l (bytes b), .l (.bool w)] [] [] (.tup [.l (segs (if pathOk w b = true then (rdPath w b).1 else [])), .l (.int .i64 (if pathOk w b = true then 0 else 5))]) [] [] := by
 refine acalls_intro Go.Proofs.Tryd.func74 rfl (by kernel_rfl) Go.Proofs.Tryd.ntmps74 Go.Proofs.Tryd.results74 (by simp) rfl rfl ?_
 try simp only [go_sem]
 refine awp_seq_k fun K1 hK1 => ?_
 refine awp_regionL (by rfl) ?_
 try simp only [go_sem]
 refine hK1 _ _ _ (awp_keep [0, 1] ?_)
 try clear hK1 K1
 try simp only [go_sem]
 refine awp_seq_k fun K2 hK2 => ?_
 refine awp_regionL (by rfl) ?_
 try simp only [go_sem]
 refine hK2 _ _ _ (awp_keep [0, 1, 6] ?_)
 try clear hK2 K2
 try simp only [go_sem]
 refine awp_seq_k fun K3 hK3 => ?_
 refine awp_regionL (by rfl) ?_
 try simp only [go_sem]
 refine acall_xa (octet_New_ok b (by omega)) [] [] ?_
 try simp only [go_sem]
 refine hK3 _ _ _ (awp_keep [1, 6, 7] ?_)
 try clear hK3 K3
 try simp only [go_sem]
 refine awp_seq_k fun K4 hK4 => ?_
 refine awp_block ?_
 refine awp_begin 6 82 2 rfl ?_
 simp only [go_sem]
 refine awp_loopE (α := (Nat) × (List Seg) × (Rd)) (fun (z : (Nat) × (List Seg) × (Rd)) => match z with | (m, out, r) => rdSegs w m out r = rdPath w b ∧ r.rest.length ≤ b.length ∧ out.length + m = 9) (fun (z : (Nat) × (List Seg) × (Rd)) => match z with | (m, out, r) => m) (fun (z : (Nat) × (List Seg) × (Rd)) => match z with | (m, out, r) => [(6, .l (.slice (.row 0) 2 (sgl out)))]) (fun (z : (Nat) × (List Seg) × (Rd)) => match z with | (m, out, r) => [r.blk]) (fun (z : (Nat) × (List Seg) × (Rd)) => match z with | (m, out, r) => [(82, out.length)]) [1, 7] ⟨9, [], ⟨b, false⟩⟩ [0] ?_ ?_ ?_
 ·
  simp only [Lss, go_sem]
  simp [sgl]
  all_goals first | rfl | omega | trivial
 ·
  exact ⟨rfl, Nat.le_refl _, rfl⟩
 rintro ⟨m, out, r⟩ ⟨hq, hr, hm⟩ K5 hK5
 try simp only [go_sem]
 have hr1 := rd_take_rest r 1
 have hr2 := sgR_le r
 have hn1 := sgN_hi r
 obtain ⟨n, hn⟩ : ∃ n : Nat, sgN r = n := ⟨(sgN r).toNat, (sgN_nat r).symm⟩
 have hn2 : IntKind.i64.wrap ((r.take 1).2.num 1) = (n : Int) := hn
 have hn3 : (sgN r).toNat = n := by omega
 refine awp_seq_k fun K6 hK6 => ?_
 refine awp_seq_k fun K7 hK7 => ?_
 refine awp_regionL (by rfl) ?_
 try simp only [go_sem]
 refine acall_xa (octet_Left_ok r) [0] [] ?_
 try simp only [go_sem]
 repeat (refine Must.au ?_; try simp only [go_sem])
 repeat (refine Must.au ?_; try simp only [go_sem])
 refine hK7 _ _ _ (awp_keep [1, 6, 7, 19] ?_)
 try clear hK7 K7
 try simp only [go_sem]
 refine awp_cond (by rfl) (fun hc0 => ?_) (fun hc0 => ?_)
 ·
  skip
  try simp only [decide_eq_true_eq, decide_eq_false_iff_not, Bool.not_eq_true', Bool.not_eq_false', Bool.and_eq_true, Bool.or_eq_true, Bool.or_eq_false_iff, Bool.and_eq_false_imp] at hc0
  have hl0 : ¬ r.left ≤ 0 := by unfold Rd.left; omega
  obtain ⟨mp, rfl⟩ : ∃ mp, m = mp + 1 := ⟨m - 1, by omega⟩
  refine awp_skip ?_
  try simp only [go_sem]
  refine hK6 _ _ _ (awp_keep [1, 6, 7] ?_)
  try clear hK6 K6
  try simp only [go_sem]
  refine awp_block ?_
  refine awp_seq_k fun K8 hK8 => ?_
  refine awp_regionL (by rfl) ?_
  try simp only [go_sem]
  refine acall_xa (octet_Byte_ok r (by omega)) [0] [] ?_
  try simp only [go_sem]
  refine hK8 _ _ _ (awp_keep [1, 6, 7, 8] ?_)
  try clear hK8 K8
  try simp only [go_sem]
  refine awp_seq_k fun K9 hK9 => ?_
  refine awp_seq_k fun K10 hK10 => ?_
  refine awp_regionL (by rfl) ?_
  try simp only [go_sem]
  refine acall_xa (octet_Byte_ok (r.take 1).2 (by omega)) [0] [] ?_
  try simp only [go_sem]
  refine hK10 _ _ _ (awp_keep [1, 6, 7, 8, 9] ?_)
  try clear hK10 K10
  try simp only [go_sem]
  refine awp_block ?_
  refine awp_beginC 1 1 23 1 rfl rfl ?_
  simp only [go_sem]
  refine awp_loopE (α := (Nat) × (List Int) × (Rd)) (fun (z : (Nat) × (List Int) × (Rd)) => match z with | (k, l, q) => rdNums w k l q = rdNums w n [] (sgR r) ∧ Room b l q ∧ k ≤ n) (fun (z : (Nat) × (List Int) × (Rd)) => match z with | (k, l, q) => k) (fun (z : (Nat) × (List Int) × (Rd)) => match z with | (k, l, q) => [(9, .l (.int .i64 (k : Int)))]) (fun (z : (Nat) × (List Int) × (Rd)) => match z with | (k, l, q) => [q.blk, ⟨82, [.int .i64 (sgK r), .slice (.row 1) 1 (ul l)]⟩]) (fun (z : (Nat) × (List Int) × (Rd)) => match z with | (k, l, q) => [(82, out.length), (23, l.length)]) [1, 6, 7, 8] ⟨n, [], sgR r⟩ [0, 1] ?_ ?_ ?_
  ·
   simp only [Lss, go_sem]
   (repeat' apply And.intro) <;> first | exact hn2 | rfl | omega | trivial | (simp [ul]; done)
   all_goals first | rfl | omega | trivial
  ·
   exact ⟨rfl, ⟨by omega, by simp, fun _ => by simp; omega⟩, Nat.le_refl _⟩
  rintro ⟨k, l, q⟩ ⟨hk, hroom, hkn⟩ K11 hK11
  try simp only [go_sem]
  refine awp_seq_k fun K12 hK12 => ?_
  refine awp_joinE (α := Unit) (fun (_u : Unit) => True) (fun (_u : Unit) => [(31, .l (.bool (decide (0 < (k : Int) ∧ q.short = false))))]) (fun (_u : Unit) => [q.blk, ⟨82, [.int .i64 (sgK r), .slice (.row 1) 1 (ul l)]⟩]) (fun (_u : Unit) => [(82, out.length), (23, l.length)]) [1, 6, 7, 8, 9] (fun K13 hK13 => ?_) ?_
  ·
   skip
   refine awp_regionL (by rfl) ?_
   try simp only [go_sem]
   refine GrdO.intro (fun hg => ?_) (fun hg => ?_)
   ·
    try simp only [Bool.not_eq_true', Bool.not_eq_false', Bool.not_true, Bool.not_false] at hg
    simp only [hg, go_sem]
    try simp only [decide_eq_true_eq, decide_eq_false_iff_not, Bool.and_eq_true, Bool.or_eq_false_iff, Bool.not_eq_true', Bool.not_eq_false'] at hg
    refine acall_xa (octet_Err_ok q) [0] [] ?_
    try simp only [go_sem]
    repeat (refine Must.au ?_; try simp only [go_sem])
    repeat (refine Must.au ?_; try simp only [go_sem])
    refine hK13 _ _ _ ⟨(), [0, 1], ?_, ?_⟩
    ·
     (try simp (disch := omega) only [w_i64, w_u8, w_u16, w_u32, w_u64]); simp only [Lss, go_sem]
     refine ⟨?_, rfl⟩
     cases q.short <;> simp [hg]
     all_goals first | rfl | omega | trivial
    ·
     first | omega | (constructor <;> omega) | trivial
   ·
    try simp only [Bool.not_eq_true', Bool.not_eq_false', Bool.not_true, Bool.not_false] at hg
    simp only [hg, go_sem]
    try simp only [decide_eq_true_eq, decide_eq_false_iff_not, Bool.and_eq_true, Bool.or_eq_false_iff, Bool.not_eq_true', Bool.not_eq_false'] at hg
    refine GrdO.noB ?_
    try simp only [go_sem]
    repeat (refine Must.au ?_; try simp only [go_sem])
    repeat (refine Must.au ?_; try simp only [go_sem])
    refine hK13 _ _ _ ⟨(), [0, 1], ?_, ?_⟩
    ·
     (try simp (disch := omega) only [w_i64, w_u8, w_u16, w_u32, w_u64]); simp only [Lss, go_sem]
     refine ⟨?_, rfl⟩
     simp [hg]
     all_goals first | rfl | omega | trivial
    ·
     first | omega | (constructor <;> omega) | trivial
  ·
   rintro _u hj
   try simp only [go_sem]
   refine awp_cond (by rfl) (fun hc1 => ?_) (fun hc1 => ?_)
   ·
    skip
    try simp only [decide_eq_true_eq, decide_eq_false_iff_not, Bool.not_eq_true', Bool.not_eq_false', Bool.and_eq_true, Bool.or_eq_true, Bool.or_eq_false_iff, Bool.and_eq_false_imp] at hc1
    obtain ⟨hk0, hs⟩ := hc1
    obtain ⟨kp, rfl⟩ : ∃ kp, k = kp + 1 := ⟨k - 1, by omega⟩
    obtain ⟨hq1, hq2, hq3⟩ := id hroom
    have hq3 := hq3 hs
    refine awp_skip ?_
    try simp only [go_sem]
    refine hK12 _ _ _ (awp_keep [1, 6, 7, 8, 9] ?_)
    try clear hK12 K12
    try simp only [go_sem]
    refine awp_seq_k fun K14 hK14 => ?_
    refine awp_block ?_
    refine awp_seq_k fun K15 hK15 => ?_
    refine awp_regionL (by rfl) ?_
    try simp only [go_sem]
    refine hK15 _ _ _ (awp_keep [1, 6, 7, 8, 9, 34] ?_)
    try clear hK15 K15
    try simp only [go_sem]
    refine awp_cond (by rfl) (fun hc2 => ?_) (fun hc2 => ?_)
    ·
     skip
     try simp only [decide_eq_true_eq, decide_eq_false_iff_not, Bool.not_eq_true', Bool.not_eq_false', Bool.and_eq_true, Bool.or_eq_true, Bool.or_eq_false_iff, Bool.and_eq_false_imp] at hc2
     have e1 : rdNum w q = q.num 4 := by simp [rdNum, hc2]
     have e2 : rdAft w q = (q.take 4).2 := by simp [rdAft, hc2]
     refine awp_drawP (by kernel_rfl) (by rfl) (by kernel_rfl) (fun i => decide (i ≠ 0)) (.early 0 (.early 1 (.early 2 (.last 3 (.last 4 (.late 5 (.early 6 (.late 7 .done)))))))) (by kernel_rfl) (fun _ _ _ _ => by simp only [go_sem, not_false_eq_true]) ?_
     try simp only [go_sem]
     refine acall_xa (octet_U32_ok q (by omega)) [0] [] ?_
     try simp only [go_sem]
     refine app_row rfl rfl rfl (by first | rfl | (simp only [go_sem, List.length_append, List.length_map, bl_length]; done) | (simp; done) | (simp; omega)) rfl (.inl rfl) (by decide) tby23 (by (try simp only [go_sem, List.length_append, List.length_map, bl_length]); first | omega | (simp; done) | (simp; omega)) (by (try simp only [go_sem, List.length_append, List.length_map, bl_length]); first | omega | (simp; done) | (simp; omega)) ?_
     try simp only [go_sem]
     refine hK14 _ _ _ (awp_keep [1, 6, 7, 8, 9] ?_)
     try simp only [go_sem]
     refine awp_regionL (by rfl) ?_
     try simp only [go_sem]
     try simp (disch := omega) only [w_i64, w_u8, w_u16, w_u32, w_u64]
     refine hK11 _ _ _ ⟨⟨kp, l ++ [rdNum w q], rdAft w q⟩, [0, 1], ?_, ?_⟩
     ·
      (try simp (disch := omega) only [w_i64, w_u8, w_u16, w_u32, w_u64]); simp only [Lss, go_sem, e1, e2, List.length_append, List.length_cons, List.length_nil]
      (repeat' apply And.intro) <;> first | exact ul_snoc _ _ | rfl | omega
      all_goals first | rfl | omega | trivial
     ·
      exact ⟨⟨by rw [← hk]; simp [rdNums, hs], hroom.step w hs _, Nat.le_of_succ_le hkn⟩, Nat.lt_succ_self kp⟩
    ·
     skip
     try simp only [decide_eq_true_eq, decide_eq_false_iff_not, Bool.not_eq_true', Bool.not_eq_false', Bool.and_eq_true, Bool.or_eq_true, Bool.or_eq_false_iff, Bool.and_eq_false_imp] at hc2
     have e1 : rdNum w q = IntKind.u32.wrap (IntKind.i64.wrap (q.num 2)) := by simp [rdNum, hc2]
     have e2 : rdAft w q = (q.take 2).2 := by simp [rdAft, hc2]
     refine awp_drawP (by kernel_rfl) (by rfl) (by kernel_rfl) (fun i => decide (i ≠ 0)) (.early 0 (.early 1 (.early 2 (.last 3 (.early 4 (.last 5 (.late 6 (.early 7 (.late 8 .done))))))))) (by kernel_rfl) (fun _ _ _ _ => by simp only [go_sem, not_false_eq_true]) ?_
     try simp only [go_sem]
     refine acall_xa (octet_U16_ok q (by omega)) [0] [] ?_
     try simp only [go_sem]
     try simp (disch := omega) only [w_i64, w_u8, w_u16, w_u32, w_u64]
     refine app_row rfl rfl rfl (by first | rfl | (simp only [go_sem, List.length_append, List.length_map, bl_length]; done) | (simp; done) | (simp; omega)) rfl (.inl rfl) (by decide) tby23 (by (try simp only [go_sem, List.length_append, List.length_map, bl_length]); first | omega | (simp; done) | (simp; omega)) (by (try simp only [go_sem, List.length_append, List.length_map, bl_length]); first | omega | (simp; done) | (simp; omega)) ?_
     try simp only [go_sem]
     try simp (disch := omega) only [w_i64, w_u8, w_u16, w_u32, w_u64]
     refine hK14 _ _ _ (awp_keep [1, 6, 7, 8, 9] ?_)
     try simp only [go_sem]
     refine awp_regionL (by rfl) ?_
     try simp only [go_sem]
     try simp (disch := omega) only [w_i64, w_u8, w_u16, w_u32, w_u64]
     refine hK11 _ _ _ ⟨⟨kp, l ++ [rdNum w q], rdAft w q⟩, [0, 1], ?_, ?_⟩
     ·
      (try simp (disch := omega) only [w_i64, w_u8, w_u16, w_u32, w_u64]); simp only [Lss, go_sem, e1, e2, List.length_append, List.length_cons, List.length_nil]
      (repeat' apply And.intro) <;> first | exact ul_snoc _ _ | rfl | omega
      all_goals first | rfl | omega | trivial
     ·
      exact ⟨⟨by rw [← hk]; simp [rdNums, hs], hroom.step w hs _, Nat.le_of_succ_le hkn⟩, Nat.lt_succ_self kp⟩
   ·
    skip
    try simp only [decide_eq_true_eq, decide_eq_false_iff_not, Bool.not_eq_true', Bool.not_eq_false', Bool.and_eq_true, Bool.or_eq_true, Bool.or_eq_false_iff, Bool.and_eq_false_imp] at hc1
    have he1 : rdNums w n [] (sgR r) = (l, q) := by
     rw [← hk]; refine rdNums_end ?_
     rcases Nat.eq_zero_or_pos k with h | h
     ·
      exact .inl h
     ·
      refine .inr ?_
      cases hqs : q.short
      ·
       exact absurd ⟨by omega, hqs⟩ hc1
      ·
       rfl
    refine awp_exit ?_
    try simp only [go_sem]
    refine hK9 _ _ _ (awp_keep [1, 6, 7, 8] ?_)
    try clear hK9 K9
    try simp only [go_sem]
    refine awp_regionL (by rfl) ?_
    try simp only [go_sem]
    refine app_row rfl rfl rfl (by first | rfl | (simp only [go_sem, List.length_append, List.length_map, bl_length]; done) | (simp; done) | (simp; omega)) rfl (.inl rfl) (by decide) tby82 (by (try simp only [go_sem, List.length_append, List.length_map, bl_length]); first | omega | (simp; done) | (simp; omega)) (by (try simp only [go_sem, List.length_append, List.length_map, bl_length]); first | omega | (simp; done) | (simp; omega)) ?_
    try simp only [go_sem]
    have hlen9 : (out ++ [(⟨sgK r, l⟩ : Seg)]).length + mp = 9 := by simp; omega
    refine hK5 _ _ _ ⟨⟨mp, out ++ [⟨sgK r, l⟩], q⟩, [0], ?_, ?_⟩
    ·
     (try simp (disch := omega) only [w_i64, w_u8, w_u16, w_u32, w_u64]); simp only [Lss, go_sem, List.length_append, List.length_cons, List.length_nil]
     exact ⟨sgl_snoc out ⟨sgK r, l⟩, rfl⟩
     all_goals first | rfl | omega | trivial
    ·
     exact ⟨⟨by rw [← hq, rdSegs_step hl0, hn3, he1], hroom.1, hlen9⟩, Nat.lt_succ_self mp⟩
 ·
  skip
  try simp only [decide_eq_true_eq, decide_eq_false_iff_not, Bool.not_eq_true', Bool.not_eq_false', Bool.and_eq_true, Bool.or_eq_true, Bool.or_eq_false_iff, Bool.and_eq_false_imp] at hc0
  have he : rdPath w b = (out, r) := by
   rw [← hq]; refine rdSegs_end ?_; unfold Rd.left
   by_cases h : 0 < (if r.short = true then (0 : Int) else r.rest.length)
   ·
    exact .inl (by have := hc0 h; omega)
   ·
    exact .inr (by omega)
  refine awp_exit ?_
  try simp only [go_sem]
  refine hK4 _ _ _ (awp_keep [6, 7] ?_)
  try clear hK4 K4
  try simp only [go_sem]
  refine awp_seq_k fun K16 hK16 => ?_
  refine awp_seq_k fun K17 hK17 => ?_
  refine awp_regionL (by rfl) ?_
  try simp only [go_sem]
  refine acall_xa (octet_Err_ok r) [0] [] ?_
  try simp only [go_sem]
  repeat (refine Must.au ?_; try simp only [go_sem])
  refine gcall_p ?_ (by rfl) (by simp only [go_sem]; rfl) (fun hg => ⟨aspath_Right_ok out, by simp only [hg, go_sem]⟩) ?_
  ·
   rfl
  try simp only [go_sem]
  repeat (refine Must.au ?_; try simp only [go_sem])
  repeat (refine Must.au ?_; try simp only [go_sem])
  refine hK17 _ _ _ (awp_keep [6, 61] ?_)
  try clear hK17 K17
  try simp only [go_sem]
  refine awp_cond (by rfl) (fun hc3 => ?_) (fun hc3 => ?_)
  ·
   skip
   try simp only [decide_eq_true_eq, decide_eq_false_iff_not, Bool.not_eq_true', Bool.not_eq_false', Bool.and_eq_true, Bool.or_eq_true, Bool.or_eq_false_iff, Bool.and_eq_false_imp] at hc3
   have hp : pathOk w b = false := by simp only [pathOk, he]; revert hc3; cases r.short <;> cases pathRight out <;> simp
   refine awp_seq_k fun K18 hK18 => ?_
   refine awp_regionL (by rfl) ?_
   try simp only [go_sem]
   refine hK18 _ _ _ (awp_keep [4, 5] ?_)
   try clear hK18 K18
   try simp only [go_sem]
   refine awp_ret ?_
   try simp only [go_sem]
   try clear hK18 K18
   try clear hK17 K17
   try clear hK16 K16
   try clear hK15 K15
   try clear hK14 K14
   try clear hK13 K13
   try clear hK12 K12
   try clear hK11 K11
   try clear hK10 K10
   try clear hK9 K9
   try clear hK8 K8
   try clear hK7 K7
   try clear hK6 K6
   try clear hK5 K5
   try clear hK4 K4
   try clear hK3 K3
   try clear hK2 K2
   try clear hK1 K1
   try rw [hp]
   refine ret_p (by simp) (by rfl) ?_ (by rfl)
   (try simp (disch := omega) only [w_i64, w_u8, w_u16, w_u32, w_u64]); simp only [go_sem] <;> (first | rfl | (simp [he]; done))
  ·
   skip
   try simp only [decide_eq_true_eq, decide_eq_false_iff_not, Bool.not_eq_true', Bool.not_eq_false', Bool.and_eq_true, Bool.or_eq_true, Bool.or_eq_false_iff, Bool.and_eq_false_imp] at hc3
   have hp : pathOk w b = true := by simp only [pathOk, he]; revert hc3; cases r.short <;> cases pathRight out <;> simp
   refine awp_skip ?_
   try simp only [go_sem]
   refine hK16 _ _ _ (awp_keep [6] ?_)
   try clear hK16 K16
   try simp only [go_sem]
   refine awp_seq_k fun K19 hK19 => ?_
   refine awp_regionL (by rfl) ?_
   try simp only [go_sem]
   refine hK19 _ _ _ (awp_keep [4, 5] ?_)
   try clear hK19 K19
   try simp only [go_sem]
   refine awp_ret ?_
   try simp only [go_sem]
   try clear hK19 K19
   try clear hK18 K18
   try clear hK17 K17
   try clear hK16 K16
   try clear hK15 K15
   try clear hK14 K14
   try clear hK13 K13
   try clear hK12 K12
   try clear hK11 K11
   try clear hK10 K10
   try clear hK9 K9
   try clear hK8 K8
   try clear hK7 K7
   try clear hK6 K6
   try clear hK5 K5
   try clear hK4 K4
   try clear hK3 K3
   try clear hK2 K2
   try clear hK1 K1
   try rw [hp]
   refine ret_p (by simp) (by rfl) ?_ (by rfl)
   (try simp (disch := omega) only [w_i64, w_u8, w_u16, w_u32, w_u64]); simp only [go_sem] <;> (first | rfl | (simp [he]; done))
end

end Go.Abs
