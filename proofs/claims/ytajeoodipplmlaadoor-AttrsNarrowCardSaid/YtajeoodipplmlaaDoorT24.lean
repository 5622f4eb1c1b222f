/-
  READING ATTRIBUTES, 5: one that is known; the end.
-/
import Derived.Test.YtajeoodipplmlaaDoorT23
set_option linter.all false
namespace Go.Abs
open Go Go.Proofs
def agS (g : Rdg) (x : One) : Rdg :=
  { g with a := { g.a with aggrAS := rdNum g.wide ⟨x.value, false⟩, hasAggr := true, aggrAddr := (rdAft g.wide ⟨x.value, false⟩).num 4 }, hasOld := true, oldAS := rdNum g.wide ⟨x.value, false⟩ }
def rdU : Nat → List Int → Rd → List Int
  | 0, l, _ => l
  | m + 1, l, r => if r.left ≤ 0 then l else rdU m (l ++ [r.num 4]) (r.take 4).2
theorem rdU_end {m : Nat} {l : List Int} {r : Rd} (h : r.left ≤ 0) : rdU m l r = l := by
  cases m <;> simp [rdU, h]
theorem left_step (r : Rd) (h : 0 < r.left) : (r.take 4).2.left ≤ r.left - 1 ∧ 0 ≤ (r.take 4).2.left := by
  unfold Rd.left at h ⊢
  unfold Rd.take
  split at h
  · omega
  · rename_i hs
    rw [if_neg hs]
    split
    · simp; omega
    · simp; omega
def withC (g : Rdg) (l : List Int) : Rdg := { g with a := { g.a with comms := l } }
def lstF (x : One) : Flt := if 32 < IntKind.i64.wrap ((x.value.length : Int).tdiv 4) then ⟨3, 9, x.all⟩ else noF
def lstG (g : Rdg) (x : One) : Rdg := if 32 < IntKind.i64.wrap ((x.value.length : Int).tdiv 4) then g else withC g (rdU (x.value.length + 1) g.a.comms ⟨x.value, false⟩)

section
attribute [local go_sem] Rdg.blk Rdg.cells Rdg.rows One.cells bytes segs Flt.cells Rd.blk Rd.cells
set_option maxRecDepth 20000 in
set_option maxHeartbeats 8000000 in
theorem aggr_ok (g : Rdg) (x : One) (hv : x.value.length ≤ 1000000) : ACX Go.Proofs.Tryd.prog G0 76 [.l (.ptr 0 0), .agg x.cells] [g.blk] g.rows (.tup []) [(agS g x).blk] (agS g x).rows := by
 refine acalls_intro Go.Proofs.Tryd.func76 rfl (by kernel_rfl) Go.Proofs.Tryd.ntmps76 Go.Proofs.Tryd.results76 (by simp) rfl rfl ?_
 try simp only [go_sem]
 have hr2 := (rd_aft g.wide ⟨x.value, false⟩ rfl).1
 simp only at hr2
 refine awp_seq_k fun K1 hK1 => ?_
 refine awp_regionL (by rfl) ?_
 try simp only [go_sem]
 refine hK1 _ _ _ (awp_keep [0, 3] ?_)
 try clear hK1 K1
 try simp only [go_sem]
 refine awp_seq_k fun K2 hK2 => ?_
 refine awp_regionL (by rfl) ?_
 try simp only [go_sem]
 refine acall_xa (octet_New_ok x.value (by omega)) [] [] ?_
 try simp only [go_sem]
 refine hK2 _ _ _ (awp_keep [0, 4] ?_)
 try clear hK2 K2
 try simp only [go_sem]
 refine awp_joinE (α := Unit) (fun (_u : Unit) => True) (fun (_u : Unit) => []) (fun (_u : Unit) => [({ g with a := { g.a with aggrAS := rdNum g.wide ⟨x.value, false⟩ } } : Rdg).blk, ⟨75, x.cells⟩, (rdAft g.wide ⟨x.value, false⟩).blk]) (fun (_u : Unit) => g.rows) [0, 4] (fun K3 hK3 => ?_) ?_
 ·
  skip
  refine awp_seq_k fun K4 hK4 => ?_
  refine awp_regionL (by rfl) ?_
  try simp only [go_sem]
  refine hK4 _ _ _ (awp_keep [0, 4, 11] ?_)
  try clear hK4 K4
  try simp only [go_sem]
  refine awp_cond (by rfl) (fun hc0 => ?_) (fun hc0 => ?_)
  ·
   skip
   try simp only [decide_eq_true_eq, decide_eq_false_iff_not, Bool.not_eq_true', Bool.not_eq_false', Bool.and_eq_true, Bool.or_eq_true, Bool.or_eq_false_iff, Bool.and_eq_false_imp] at hc0
   refine awp_regionL (by rfl) ?_
   try simp only [go_sem]
   refine acall_xa (octet_U32_ok ⟨x.value, false⟩ (by simp only; omega)) [2] [] ?_
   try simp only [go_sem]
   have e1 : rdNum g.wide ⟨x.value, false⟩ = Rd.num ⟨x.value, false⟩ 4 := by simp [rdNum, hc0]
   have e2 : rdAft g.wide ⟨x.value, false⟩ = (Rd.take ⟨x.value, false⟩ 4).2 := by simp [rdAft, hc0]
   refine hK3 _ _ _ ⟨(), [0, 1, 2], ?_, ?_⟩
   ·
    (try simp (disch := omega) only [w_i64, w_u8, w_u16, w_u32, w_u64]); simp only [Lss, go_sem, e1, e2]
    (repeat' apply And.intro) <;> first | rfl | omega | trivial | (simp; done)
   ·
    first | omega | (constructor <;> omega) | trivial
  ·
   skip
   try simp only [decide_eq_true_eq, decide_eq_false_iff_not, Bool.not_eq_true', Bool.not_eq_false', Bool.and_eq_true, Bool.or_eq_true, Bool.or_eq_false_iff, Bool.and_eq_false_imp] at hc0
   refine awp_regionL (by rfl) ?_
   try simp only [go_sem]
   refine acall_xa (octet_U16_ok ⟨x.value, false⟩ (by simp only; omega)) [2] [] ?_
   try simp only [go_sem]
   try simp (disch := omega) only [w_i64, w_u8, w_u16, w_u32, w_u64]
   have e1 : rdNum g.wide ⟨x.value, false⟩ = IntKind.u32.wrap (IntKind.i64.wrap (Rd.num ⟨x.value, false⟩ 2)) := by simp [rdNum, hc0]
   have e2 : rdAft g.wide ⟨x.value, false⟩ = (Rd.take ⟨x.value, false⟩ 2).2 := by simp [rdAft, hc0]
   refine hK3 _ _ _ ⟨(), [0, 1, 2], ?_, ?_⟩
   ·
    (try simp (disch := omega) only [w_i64, w_u8, w_u16, w_u32, w_u64]); simp only [Lss, go_sem, e1, e2]
    (repeat' apply And.intro) <;> first | rfl | omega | trivial | (simp; done)
   ·
    first | omega | (constructor <;> omega) | trivial
 ·
  rintro _u hj
  try simp only [go_sem]
  refine awp_drawP (by kernel_rfl) (by rfl) (by kernel_rfl) (fun i => decide (i ≠ 2)) (.early 0 (.early 1 (.early 2 (.early 3 (.early 4 (.early 5 (.early 6 (.early 7 (.early 8 (.early 9 (.last 10 (.early 11 (.early 12 (.early 13 (.late 14 (.early 15 (.early 16 (.late 17 (.early 18 (.early 19 (.late 20 (.early 21 (.early 22 (.early 23 (.late 24 .done))))))))))))))))))))))))) (by kernel_rfl) (fun _ _ _ _ => by simp only [go_sem, not_false_eq_true]) ?_
  try simp only [go_sem]
  refine acall_xa (octet_U32_ok (rdAft g.wide ⟨x.value, false⟩) (by omega)) [2] [] ?_
  try simp only [go_sem]
  try clear hK4 K4
  try clear hK3 K3
  try clear hK2 K2
  try clear hK1 K1
  refine ret_x [0, 1, 2] (by simp) (by rfl) ?_ (by rfl) ?_ (by rfl) (by simp) (by simp) (by rfl) ?_ <;> ((try simp (disch := omega) only [w_i64, w_u8, w_u16, w_u32, w_u64]); simp only [go_sem]) <;> (first | rfl | omega | trivial | (simp; done) | simp_all)
end

section
attribute [local go_sem] Rdg.blk Rdg.cells Rdg.rows One.cells bytes segs Flt.cells Rd.blk Rd.cells withC
set_option maxRecDepth 20000 in
set_option maxHeartbeats 8000000 in
theorem list_ok (g : Rdg) (x : One) (hv : g.a.comms.length + x.value.length ≤ 1000000) : ACX Go.Proofs.Tryd.prog G0 77 [.l (.ptr 0 0), .agg x.cells] [g.blk] g.rows (.agg (lstF x).cells) [(lstG g x).blk] (lstG g x).rows := by
 refine acalls_intro Go.Proofs.Tryd.func77 rfl (by kernel_rfl) Go.Proofs.Tryd.ntmps77 Go.Proofs.Tryd.results77 (by simp) rfl rfl ?_
 try simp only [go_sem]
 refine awp_seq_k fun K1 hK1 => ?_
 refine awp_regionL (by rfl) ?_
 try simp only [go_sem]
 refine hK1 _ _ _ (awp_keep [0, 3, 4] ?_)
 try clear hK1 K1
 try simp only [go_sem]
 refine awp_seq_k fun K2 hK2 => ?_
 refine awp_seq_k fun K3 hK3 => ?_
 refine awp_regionL (by rfl) ?_
 try simp only [go_sem]
 try simp (disch := omega) only [w_i64, w_u8, w_u16, w_u32, w_u64]
 refine hK3 _ _ _ (awp_keep [0, 3, 4, 10] ?_)
 try clear hK3 K3
 try simp only [go_sem]
 refine awp_cond (by rfl) (fun hc0 => ?_) (fun hc0 => ?_)
 ·
  skip
  try simp only [decide_eq_true_eq, decide_eq_false_iff_not, Bool.not_eq_true', Bool.not_eq_false', Bool.and_eq_true, Bool.or_eq_true, Bool.or_eq_false_iff, Bool.and_eq_false_imp] at hc0
  have hf : lstF x = ⟨3, 9, x.all⟩ := by unfold lstF; rw [if_pos hc0]
  have hg : lstG g x = g := by unfold lstG; rw [if_pos hc0]
  refine awp_seq_k fun K4 hK4 => ?_
  refine awp_regionL (by rfl) ?_
  try simp only [go_sem]
  refine acall_pa (attrs_fault_ok 9 x.all) ?_
  try simp only [go_sem]
  refine hK4 _ _ _ (awp_keep [4] ?_)
  try clear hK4 K4
  try simp only [go_sem]
  refine awp_ret ?_
  try simp only [go_sem]
  try clear hK4 K4
  try clear hK3 K3
  try clear hK2 K2
  try clear hK1 K1
  refine ret_x [0, 1, 2] (by simp) (by rfl) ?_ (by rfl) ?_ (by rfl) (by simp) (by simp) (by rfl) ?_ <;> ((try simp (disch := omega) only [w_i64, w_u8, w_u16, w_u32, w_u64]); simp only [go_sem]) <;> ((first | rw [hf] | rw [hg]) <;> (repeat' apply And.intro) <;> first | rfl | (simp; done))
 ·
  skip
  try simp only [decide_eq_true_eq, decide_eq_false_iff_not, Bool.not_eq_true', Bool.not_eq_false', Bool.and_eq_true, Bool.or_eq_true, Bool.or_eq_false_iff, Bool.and_eq_false_imp] at hc0
  have hf : lstF x = noF := by unfold lstF; rw [if_neg hc0]
  have hg : lstG g x = withC g (rdU (x.value.length + 1) g.a.comms ⟨x.value, false⟩) := by unfold lstG; rw [if_neg hc0]
  refine awp_skip ?_
  try simp only [go_sem]
  refine hK2 _ _ _ (awp_keep [0, 3, 4] ?_)
  try clear hK2 K2
  try simp only [go_sem]
  refine awp_seq_k fun K5 hK5 => ?_
  refine awp_seq_k fun K6 hK6 => ?_
  refine awp_regionL (by rfl) ?_
  try simp only [go_sem]
  refine acall_xa (octet_New_ok x.value (by omega)) [] [] ?_
  try simp only [go_sem]
  refine hK6 _ _ _ (awp_keep [0, 4, 5] ?_)
  try clear hK6 K6
  try simp only [go_sem]
  refine awp_block ?_
  refine awp_loopE (α := (Nat) × (List Int) × (Rd)) (fun (z : (Nat) × (List Int) × (Rd)) => match z with | (m, l, r) => rdU m l r = rdU (x.value.length + 1) g.a.comms ⟨x.value, false⟩ ∧ r.left < m ∧ 0 ≤ r.left ∧ (l.length : Int) + r.left ≤ g.a.comms.length + x.value.length ∧ r.rest.length ≤ x.value.length) (fun (z : (Nat) × (List Int) × (Rd)) => match z with | (m, l, r) => m) (fun (z : (Nat) × (List Int) × (Rd)) => match z with | (m, l, r) => []) (fun (z : (Nat) × (List Int) × (Rd)) => match z with | (m, l, r) => [(withC g l).blk, ⟨75, x.cells⟩, ⟨46, noF.cells⟩, r.blk]) (fun (z : (Nat) × (List Int) × (Rd)) => match z with | (m, l, r) => (withC g l).rows) [0, 4, 5] ⟨x.value.length + 1, g.a.comms, ⟨x.value, false⟩⟩ [0, 1, 2] ?_ ?_ ?_
  ·
   simp only [Lss, go_sem]
   (repeat' apply And.intro) <;> first | rfl | omega | trivial | (simp; done)
  ·
   exact ⟨rfl, by simp [Rd.left]; omega, by simp [Rd.left], by simp [Rd.left], by simp⟩
  rintro ⟨m, l, r⟩ ⟨hq, hlt, h0, hsum, hrl⟩ K7 hK7
  try simp only [go_sem]
  have hr4 := rd_take_rest r 4
  refine awp_seq_k fun K8 hK8 => ?_
  refine awp_seq_k fun K9 hK9 => ?_
  refine awp_regionL (by rfl) ?_
  try simp only [go_sem]
  refine acall_xa (octet_Left_ok r) [3] [] ?_
  try simp only [go_sem]
  refine hK9 _ _ _ (awp_keep [0, 4, 5, 19] ?_)
  try clear hK9 K9
  try simp only [go_sem]
  refine awp_cond (by rfl) (fun hc1 => ?_) (fun hc1 => ?_)
  ·
   skip
   try simp only [decide_eq_true_eq, decide_eq_false_iff_not, Bool.not_eq_true', Bool.not_eq_false', Bool.and_eq_true, Bool.or_eq_true, Bool.or_eq_false_iff, Bool.and_eq_false_imp] at hc1
   have hl0 : 0 < r.left := by unfold Rd.left; exact hc1
   have hls := left_step r hl0
   obtain ⟨mp, rfl⟩ : ∃ mp, m = mp + 1 := ⟨m - 1, by omega⟩
   refine awp_skip ?_
   try simp only [go_sem]
   refine hK8 _ _ _ (awp_keep [0, 4, 5] ?_)
   try clear hK8 K8
   try simp only [go_sem]
   refine awp_block ?_
   refine awp_drawP (by kernel_rfl) (by rfl) (by kernel_rfl) (fun i => decide (i ≠ 3)) (.early 0 (.early 1 (.early 2 (.early 3 (.early 4 (.early 5 (.early 6 (.last 7 (.last 8 (.late 9 (.early 10 (.early 11 (.early 12 (.late 13 .done)))))))))))))) (by kernel_rfl) (fun _ _ _ _ => by simp only [go_sem, not_false_eq_true]) ?_
   try simp only [go_sem]
   refine acall_xa (octet_U32_ok r (by omega)) [3] [] ?_
   try simp only [go_sem]
   refine app_row rfl rfl rfl (by first | rfl | (simp only [go_sem, List.length_append, List.length_map, bl_length]; done) | (simp; done) | (simp; omega)) rfl (.inl rfl) (by decide) tby23 (by (try simp only [go_sem, List.length_append, List.length_map, bl_length]); first | omega | (simp; done) | (simp; omega)) (by (try simp only [go_sem, List.length_append, List.length_map, bl_length]); first | omega | (simp; done) | (simp; omega)) ?_
   try simp only [go_sem]
   refine hK7 _ _ _ ⟨⟨mp, l ++ [r.num 4], (r.take 4).2⟩, [0, 1, 2], ?_, ?_⟩
   ·
    (try simp (disch := omega) only [w_i64, w_u8, w_u16, w_u32, w_u64]); simp only [Lss, go_sem, List.length_append, List.length_cons, List.length_nil]
    exact ⟨ul_snoc _ _, rfl⟩
    all_goals first | rfl | omega | trivial
   ·
    exact ⟨⟨by rw [← hq, rdU, if_neg (by omega)], by omega, by omega, by simp; omega, by omega⟩, Nat.lt_succ_self mp⟩
  ·
   skip
   try simp only [decide_eq_true_eq, decide_eq_false_iff_not, Bool.not_eq_true', Bool.not_eq_false', Bool.and_eq_true, Bool.or_eq_true, Bool.or_eq_false_iff, Bool.and_eq_false_imp] at hc1
   have hl0 : r.left ≤ 0 := by unfold Rd.left; omega
   have he : rdU (x.value.length + 1) g.a.comms ⟨x.value, false⟩ = l := by rw [← hq]; exact rdU_end hl0
   rw [he] at hg
   refine awp_exit ?_
   try simp only [go_sem]
   refine hK5 _ _ _ (awp_keep [4] ?_)
   try clear hK5 K5
   try simp only [go_sem]
   refine awp_seq_k fun K10 hK10 => ?_
   refine awp_regionL (by rfl) ?_
   try simp only [go_sem]
   refine hK10 _ _ _ (awp_keep [4] ?_)
   try clear hK10 K10
   try simp only [go_sem]
   refine awp_ret ?_
   try simp only [go_sem]
   try clear hK10 K10
   try clear hK9 K9
   try clear hK8 K8
   try clear hK7 K7
   try clear hK6 K6
   try clear hK5 K5
   try clear hK4 K4
   try clear hK3 K3
   try clear hK2 K2
   try clear hK1 K1
   refine ret_x [0, 1, 2] (by simp) (by rfl) ?_ (by rfl) ?_ (by rfl) (by simp) (by simp) (by rfl) ?_ <;> ((try simp (disch := omega) only [w_i64, w_u8, w_u16, w_u32, w_u64]); simp only [go_sem]) <;> ((first | rw [hf] | rw [hg]) <;> (repeat' apply And.intro) <;> first | rfl | (simp; done))
end

def u1 (v : List Int) : Int := IntKind.i64.wrap (Rd.num ⟨v, false⟩ 1)
def u4 (v : List Int) : Int := Rd.num ⟨v, false⟩ 4
theorem u4_range (v : List Int) : 0 ≤ u4 v ∧ u4 v < 4294967296 := by
  have := num_range ⟨v, false⟩ 4
  unfold u4; omega
def withPath (g : Rdg) (v : List Int) : Rdg := if pathOk g.wide v = true then { g with a := { g.a with path := (rdPath g.wide v).1 } } else g
def withAS (g : Rdg) (v : List Int) : Rdg := if (v.length : Int) = 8 then { g with newAS := v } else g
def knG (g : Rdg) (x : One) : Rdg :=
  if x.kind = 1 then { g with a := { g.a with origin := u1 x.value } }
  else if x.kind = 2 then withPath g x.value
  else if x.kind = 3 then { g with a := { g.a with next := u4 x.value } }
  else if x.kind = 4 then { g with a := { g.a with med := u4 x.value } }
  else if x.kind = 5 then { g with a := { g.a with pref := u4 x.value } }
  else if x.kind = 6 then { g with a := { g.a with atomic := true } }
  else if x.kind = 7 then agS g x
  else if x.kind = 8 then lstG g x
  else if x.kind = 17 then { g with more := if pathOk true x.value = true then (rdPath true x.value).1 else [] }
  else if x.kind = 18 then withAS g x.value
  else g
def knF (g : Rdg) (x : One) : Flt :=
  if x.kind = 1 then (if 2 < u1 x.value then ⟨3, 6, x.all⟩ else noF)
  else if x.kind = 2 then (if pathOk g.wide x.value = true then noF else ⟨3, 11, []⟩)
  else if x.kind = 3 then (if nextS (u4 x.value) = true then noF else ⟨3, 8, x.all⟩)
  else if x.kind = 8 then lstF x
  else noF
theorem knG_1 {g : Rdg} {x : One} (h : x.kind = 1) : knG g x = { g with a := { g.a with origin := u1 x.value } } := by simp [knG, h]
theorem knG_2t {g : Rdg} {x : One} (h : x.kind = 2) (hp : pathOk g.wide x.value = true) : knG g x = { g with a := { g.a with path := (rdPath g.wide x.value).1 } } := by simp [knG, h, withPath, hp]
theorem knG_2f {g : Rdg} {x : One} (h : x.kind = 2) (hp : pathOk g.wide x.value = false) : knG g x = g := by simp [knG, h, withPath, hp]
theorem knG_3 {g : Rdg} {x : One} (h : x.kind = 3) : knG g x = { g with a := { g.a with next := u4 x.value } } := by simp [knG, h]
theorem knG_4 {g : Rdg} {x : One} (h : x.kind = 4) : knG g x = { g with a := { g.a with med := u4 x.value } } := by simp [knG, h]
theorem knG_5 {g : Rdg} {x : One} (h : x.kind = 5) : knG g x = { g with a := { g.a with pref := u4 x.value } } := by simp [knG, h]
theorem knG_6 {g : Rdg} {x : One} (h : x.kind = 6) : knG g x = { g with a := { g.a with atomic := true } } := by simp [knG, h]
theorem knG_7 {g : Rdg} {x : One} (h : x.kind = 7) : knG g x = agS g x := by simp [knG, h]
theorem knG_8 {g : Rdg} {x : One} (h : x.kind = 8) : knG g x = lstG g x := by simp [knG, h]
theorem knG_17 {g : Rdg} {x : One} (h : x.kind = 17) : knG g x = { g with more := if pathOk true x.value = true then (rdPath true x.value).1 else [] } := by simp [knG, h]
theorem knG_18t {g : Rdg} {x : One} (h : x.kind = 18) (h8 : (x.value.length : Int) = 8) : knG g x = { g with newAS := x.value } := by simp [knG, h, withAS, h8]
theorem knG_18f {g : Rdg} {x : One} (h : x.kind = 18) (h8 : ¬ (x.value.length : Int) = 8) : knG g x = g := by simp [knG, h, withAS, h8]
theorem knG_0 {g : Rdg} {x : One} (h1 : ¬ x.kind = 1) (h2 : ¬ x.kind = 2) (h3 : ¬ x.kind = 3) (h4 : ¬ x.kind = 4) (h5 : ¬ x.kind = 5) (h6 : ¬ x.kind = 6) (h7 : ¬ x.kind = 7) (h8 : ¬ x.kind = 8) (h17 : ¬ x.kind = 17) (h18 : ¬ x.kind = 18) : knG g x = g := by simp [knG, h1, h2, h3, h4, h5, h6, h7, h8, h17, h18]
theorem knF_1t {g : Rdg} {x : One} (h : x.kind = 1) (h2 : 2 < u1 x.value) : knF g x = ⟨3, 6, x.all⟩ := by simp [knF, h, h2]
theorem knF_1f {g : Rdg} {x : One} (h : x.kind = 1) (h2 : ¬ 2 < u1 x.value) : knF g x = noF := by simp only [knF, if_pos h, if_neg h2]
theorem knF_2t {g : Rdg} {x : One} (h : x.kind = 2) (hp : pathOk g.wide x.value = true) : knF g x = noF := by simp [knF, h, hp]
theorem knF_2f {g : Rdg} {x : One} (h : x.kind = 2) (hp : pathOk g.wide x.value = false) : knF g x = ⟨3, 11, []⟩ := by simp [knF, h, hp]
theorem knF_3t {g : Rdg} {x : One} (h : x.kind = 3) (hp : nextS (u4 x.value) = true) : knF g x = noF := by simp [knF, h, hp]
theorem knF_3f {g : Rdg} {x : One} (h : x.kind = 3) (hp : nextS (u4 x.value) = false) : knF g x = ⟨3, 8, x.all⟩ := by simp [knF, h, hp]
theorem knF_8 {g : Rdg} {x : One} (h : x.kind = 8) : knF g x = lstF x := by simp [knF, h]
theorem knF_0 {g : Rdg} {x : One} (h1 : ¬ x.kind = 1) (h2 : ¬ x.kind = 2) (h3 : ¬ x.kind = 3) (h8 : ¬ x.kind = 8) : knF g x = noF := by simp [knF, h1, h2, h3, h8]

section
attribute [local go_sem] Rdg.blk Rdg.cells Rdg.rows One.cells bytes segs Flt.cells Rd.blk Rd.cells
set_option maxRecDepth 20000 in
set_option maxHeartbeats 8000000 in
theorem known_ok (g : Rdg) (x : One) (hv : g.a.comms.length + x.value.length ≤ 1000000) : ACX Go.Proofs.Tryd.prog G0 55 [.l (.ptr 0 0), .agg x.cells] [g.blk] g.rows (.agg (knF g x).cells) [(knG g x).blk] (knG g x).rows := by
 refine acalls_intro Go.Proofs.Tryd.func55 rfl (by kernel_rfl) Go.Proofs.Tryd.ntmps55 Go.Proofs.Tryd.results55 (by simp) rfl rfl ?_
 try simp only [go_sem, hw4]
 have h4 := u4_range x.value
 have hw4 : IntKind.i64.wrap (Rd.num ⟨x.value, false⟩ 4) = u4 x.value := w_i64 (by show _ ≤ u4 x.value; omega) (by show u4 x.value ≤ _; omega)
 refine awp_seq_k fun K1 hK1 => ?_
 refine awp_regionL (by rfl) ?_
 try simp only [go_sem, hw4]
 refine hK1 _ _ _ (awp_keep [0, 3, 4] ?_)
 try clear hK1 K1
 try simp only [go_sem, hw4]
 refine awp_seq_k fun K2 hK2 => ?_
 refine awp_regionL (by rfl) ?_
 try simp only [go_sem, hw4]
 refine acall_x (octet_New_ok x.value (by omega)) [] [] (by decide) (by decide) (by simp) (by first | (simp only [go_sem, hw4]; done) | (simp only [go_sem, hw4] <;> (repeat' apply And.intro) <;> first | rfl | omega | trivial)) (by first | (simp only [go_sem, hw4]; done) | (simp only [go_sem, hw4] <;> (repeat' apply And.intro) <;> first | rfl | omega | trivial)) (by first | (simp only [go_sem, hw4]; done) | (simp only [go_sem, hw4] <;> (repeat' apply And.intro) <;> first | rfl | omega | trivial)) ?_
 try simp only [go_sem, hw4]
 refine hK2 _ _ _ (awp_keep [0, 3, 4, 5] ?_)
 try clear hK2 K2
 try simp only [go_sem, hw4]
 refine awp_seq_k fun K3 hK3 => ?_
 refine awp_seq_k fun K4 hK4 => ?_
 refine awp_regionL (by rfl) ?_
 try simp only [go_sem, hw4]
 refine hK4 _ _ _ (awp_keep [0, 3, 4, 5, 12] ?_)
 try clear hK4 K4
 try simp only [go_sem, hw4]
 refine awp_block ?_
 refine awp_seq_k fun K5 hK5 => ?_
 refine awp_regionL (by rfl) ?_
 try simp only [go_sem, hw4]
 refine hK5 _ _ _ (awp_keep [0, 3, 4, 5, 12, 13] ?_)
 try clear hK5 K5
 try simp only [go_sem, hw4]
 refine awp_cond (by rfl) (fun hc0 => ?_) (fun hc0 => ?_)
 ·
  skip
  try simp only [decide_eq_true_eq, decide_eq_false_iff_not, Bool.not_eq_true', Bool.not_eq_false', Bool.and_eq_true, Bool.or_eq_true, Bool.or_eq_false_iff, Bool.and_eq_false_imp] at hc0
  have hg := knG_1 (g := g) hc0
  refine awp_seq_k fun K6 hK6 => ?_
  refine awp_regionL (by rfl) ?_
  try simp only [go_sem, hw4]
  refine acall_x (octet_Byte_ok ⟨x.value, false⟩ (by simp only; omega)) [3] [] (by decide) (by decide) (by simp) (by first | (simp only [go_sem, hw4]; done) | (simp only [go_sem, hw4] <;> (repeat' apply And.intro) <;> first | rfl | omega | trivial)) (by first | (simp only [go_sem, hw4]; done) | (simp only [go_sem, hw4] <;> (repeat' apply And.intro) <;> first | rfl | omega | trivial)) (by first | (simp only [go_sem, hw4]; done) | (simp only [go_sem, hw4] <;> (repeat' apply And.intro) <;> first | rfl | omega | trivial)) ?_
  try simp only [go_sem, hw4]
  refine hK6 _ _ _ (awp_keep [0, 3, 4] ?_)
  try clear hK6 K6
  try simp only [go_sem, hw4]
  refine awp_seq_k fun K7 hK7 => ?_
  refine awp_regionL (by rfl) ?_
  try simp only [go_sem, hw4]
  refine hK7 _ _ _ (awp_keep [3, 4, 26] ?_)
  try clear hK7 K7
  try simp only [go_sem, hw4]
  refine awp_cond (by rfl) (fun hc1 => ?_) (fun hc1 => ?_)
  ·
   skip
   try simp only [decide_eq_true_eq, decide_eq_false_iff_not, Bool.not_eq_true', Bool.not_eq_false', Bool.and_eq_true, Bool.or_eq_true, Bool.or_eq_false_iff, Bool.and_eq_false_imp] at hc1
   have hf := knF_1t (g := g) hc0 hc1
   refine awp_seq_k fun K8 hK8 => ?_
   refine awp_regionL (by rfl) ?_
   try simp only [go_sem, hw4]
   refine acall_p (attrs_fault_ok 6 x.all) (by first | exact ⟨rfl, trivial⟩ | exact ⟨rfl, rfl, trivial⟩ | exact ⟨rfl, rfl, rfl, trivial⟩ | (simp only [go_sem, hw4]; done) | (simp only [go_sem, hw4] <;> (repeat' apply And.intro) <;> first | rfl | omega | trivial)) ?_
   try simp only [go_sem, hw4]
   refine hK8 _ _ _ (awp_keep [4] ?_)
   try clear hK8 K8
   try simp only [go_sem, hw4]
   refine awp_ret ?_
   try simp only [go_sem, hw4]
   try clear hK8 K8
   try clear hK7 K7
   try clear hK6 K6
   try clear hK5 K5
   try clear hK4 K4
   try clear hK3 K3
   try clear hK2 K2
   try clear hK1 K1
   refine ret_x [0, 1, 2] (by simp) (by rfl) ?_ (by rfl) ?_ (by rfl) (by simp) (by simp) (by rfl) ?_ <;> ((try simp (disch := omega) only [w_i64, w_u8, w_u16, w_u32, w_u64]); simp only [go_sem, hw4]) <;> ((first | rw [hf] | rw [hg]) <;> (repeat' apply And.intro) <;> first | rfl | (simp; done) | (simp [hp]; done))
  ·
   skip
   try simp only [decide_eq_true_eq, decide_eq_false_iff_not, Bool.not_eq_true', Bool.not_eq_false', Bool.and_eq_true, Bool.or_eq_true, Bool.or_eq_false_iff, Bool.and_eq_false_imp] at hc1
   have hf := knF_1f (g := g) hc0 hc1
   refine awp_skip ?_
   try simp only [go_sem, hw4]
   refine hK3 _ _ _ (awp_keep [4] ?_)
   try simp only [go_sem, hw4]
   refine awp_seq_k fun K9 hK9 => ?_
   refine awp_regionL (by rfl) ?_
   try simp only [go_sem, hw4]
   refine hK9 _ _ _ (awp_keep [4] ?_)
   try clear hK9 K9
   try simp only [go_sem, hw4]
   refine awp_ret ?_
   try simp only [go_sem, hw4]
   try clear hK9 K9
   try clear hK8 K8
   try clear hK7 K7
   try clear hK6 K6
   try clear hK5 K5
   try clear hK4 K4
   try clear hK3 K3
   try clear hK2 K2
   try clear hK1 K1
   refine ret_x [0, 1, 2] (by simp) (by rfl) ?_ (by rfl) ?_ (by rfl) (by simp) (by simp) (by rfl) ?_ <;> ((try simp (disch := omega) only [w_i64, w_u8, w_u16, w_u32, w_u64]); simp only [go_sem, hw4]) <;> ((first | rw [hf] | rw [hg]) <;> (repeat' apply And.intro) <;> first | rfl | (simp; done) | (simp [hp]; done))
 ·
  skip
  try simp only [decide_eq_true_eq, decide_eq_false_iff_not, Bool.not_eq_true', Bool.not_eq_false', Bool.and_eq_true, Bool.or_eq_true, Bool.or_eq_false_iff, Bool.and_eq_false_imp] at hc0
  refine awp_seq_k fun K10 hK10 => ?_
  refine awp_regionL (by rfl) ?_
  try simp only [go_sem, hw4]
  refine hK10 _ _ _ (awp_keep [0, 3, 4, 5, 12, 30] ?_)
  try clear hK10 K10
  try simp only [go_sem, hw4]
  refine awp_cond (by rfl) (fun hc2 => ?_) (fun hc2 => ?_)
  ·
   skip
   try simp only [decide_eq_true_eq, decide_eq_false_iff_not, Bool.not_eq_true', Bool.not_eq_false', Bool.and_eq_true, Bool.or_eq_true, Bool.or_eq_false_iff, Bool.and_eq_false_imp] at hc2
   refine awp_seq_k fun K11 hK11 => ?_
   refine awp_drawP (by kernel_rfl) (by rfl) (by kernel_rfl) (fun _ => true) (.early 0 (.early 1 (.early 2 (.early 3 (.early 4 (.early 5 (.late 6 (.early 7 (.early 8 (.early 9 (.early 10 (.early 11 .done)))))))))))) (by kernel_rfl) (fun _ _ _ _ => by simp only [go_sem, not_false_eq_true]) ?_
   try simp only [go_sem, hw4]
   refine acall_p (aspath_Read_ok x.value g.wide (by omega)) (by first | exact ⟨rfl, trivial⟩ | exact ⟨rfl, rfl, trivial⟩ | exact ⟨rfl, rfl, rfl, trivial⟩ | (simp only [go_sem, hw4]; done) | (simp only [go_sem, hw4] <;> (repeat' apply And.intro) <;> first | rfl | omega | trivial)) ?_
   try simp only [go_sem, hw4]
   refine hK11 _ _ _ (awp_keep [0, 4, 6, 7] ?_)
   try clear hK11 K11
   try simp only [go_sem, hw4]
   refine awp_seq_k fun K12 hK12 => ?_
   refine awp_seq_k fun K13 hK13 => ?_
   refine awp_regionL (by rfl) ?_
   try simp only [go_sem, hw4]
   refine hK13 _ _ _ (awp_keep [0, 4, 6, 43] ?_)
   try clear hK13 K13
   try simp only [go_sem, hw4]
   refine awp_cond (by rfl) (fun hc3 => ?_) (fun hc3 => ?_)
   ·
    skip
    try simp only [decide_eq_true_eq, decide_eq_false_iff_not, Bool.not_eq_true', Bool.not_eq_false', Bool.and_eq_true, Bool.or_eq_true, Bool.or_eq_false_iff, Bool.and_eq_false_imp] at hc3
    have hp : pathOk g.wide x.value = false := by revert hc3; cases pathOk g.wide x.value <;> simp
    have hg := knG_2f (g := g) hc2 hp
    have hf := knF_2f (g := g) hc2 hp
    refine awp_seq_k fun K14 hK14 => ?_
    refine awp_regionL (by rfl) ?_
    try simp only [go_sem, hw4]
    refine acall_p (attrs_fault_ok 11 []) (by first | exact ⟨rfl, trivial⟩ | exact ⟨rfl, rfl, trivial⟩ | exact ⟨rfl, rfl, rfl, trivial⟩ | (simp only [go_sem, hw4]; done) | (simp only [go_sem, hw4] <;> (repeat' apply And.intro) <;> first | rfl | omega | trivial)) ?_
    try simp only [go_sem, hw4]
    refine hK14 _ _ _ (awp_keep [4] ?_)
    try clear hK14 K14
    try simp only [go_sem, hw4]
    refine awp_ret ?_
    try simp only [go_sem, hw4]
    try clear hK14 K14
    try clear hK13 K13
    try clear hK12 K12
    try clear hK11 K11
    try clear hK10 K10
    try clear hK9 K9
    try clear hK8 K8
    try clear hK7 K7
    try clear hK6 K6
    try clear hK5 K5
    try clear hK4 K4
    try clear hK3 K3
    try clear hK2 K2
    try clear hK1 K1
    refine ret_x [0, 1, 2] (by simp) (by rfl) ?_ (by rfl) ?_ (by rfl) (by simp) (by simp) (by rfl) ?_ <;> ((try simp (disch := omega) only [w_i64, w_u8, w_u16, w_u32, w_u64]); simp only [go_sem, hw4]) <;> ((first | rw [hf] | rw [hg]) <;> (repeat' apply And.intro) <;> first | rfl | (simp; done) | (simp [hp]; done))
   ·
    skip
    try simp only [decide_eq_true_eq, decide_eq_false_iff_not, Bool.not_eq_true', Bool.not_eq_false', Bool.and_eq_true, Bool.or_eq_true, Bool.or_eq_false_iff, Bool.and_eq_false_imp] at hc3
    have hp : pathOk g.wide x.value = true := by revert hc3; cases pathOk g.wide x.value <;> simp
    have hg := knG_2t (g := g) hc2 hp
    have hf := knF_2t (g := g) hc2 hp
    refine awp_skip ?_
    try simp only [go_sem, hw4]
    refine hK12 _ _ _ (awp_keep [0, 4, 6] ?_)
    try clear hK12 K12
    try simp only [go_sem, hw4]
    refine awp_regionL (by rfl) ?_
    try simp only [go_sem, hw4]
    refine hK3 _ _ _ (awp_keep [4] ?_)
    try simp only [go_sem, hw4]
    refine awp_seq_k fun K15 hK15 => ?_
    refine awp_regionL (by rfl) ?_
    try simp only [go_sem, hw4]
    refine hK15 _ _ _ (awp_keep [4] ?_)
    try clear hK15 K15
    try simp only [go_sem, hw4]
    refine awp_ret ?_
    try simp only [go_sem, hw4]
    try clear hK15 K15
    try clear hK14 K14
    try clear hK13 K13
    try clear hK12 K12
    try clear hK11 K11
    try clear hK10 K10
    try clear hK9 K9
    try clear hK8 K8
    try clear hK7 K7
    try clear hK6 K6
    try clear hK5 K5
    try clear hK4 K4
    try clear hK3 K3
    try clear hK2 K2
    try clear hK1 K1
    refine ret_x [0, 1, 2] (by simp) (by rfl) ?_ (by rfl) ?_ (by rfl) (by simp) (by simp) (by rfl) ?_ <;> ((try simp (disch := omega) only [w_i64, w_u8, w_u16, w_u32, w_u64]); simp only [go_sem, hw4]) <;> ((first | rw [hf] | rw [hg]) <;> (repeat' apply And.intro) <;> first | rfl | (simp; done) | (simp [hp]; done))
  ·
   skip
   try simp only [decide_eq_true_eq, decide_eq_false_iff_not, Bool.not_eq_true', Bool.not_eq_false', Bool.and_eq_true, Bool.or_eq_true, Bool.or_eq_false_iff, Bool.and_eq_false_imp] at hc2
   refine awp_seq_k fun K16 hK16 => ?_
   refine awp_regionL (by rfl) ?_
   try simp only [go_sem, hw4]
   refine hK16 _ _ _ (awp_keep [0, 3, 4, 5, 12, 50] ?_)
   try clear hK16 K16
   try simp only [go_sem, hw4]
   refine awp_cond (by rfl) (fun hc4 => ?_) (fun hc4 => ?_)
   ·
    skip
    try simp only [decide_eq_true_eq, decide_eq_false_iff_not, Bool.not_eq_true', Bool.not_eq_false', Bool.and_eq_true, Bool.or_eq_true, Bool.or_eq_false_iff, Bool.and_eq_false_imp] at hc4
    have hg := knG_3 (g := g) hc4
    refine awp_seq_k fun K17 hK17 => ?_
    refine awp_regionL (by rfl) ?_
    try simp only [go_sem, hw4]
    refine acall_x (octet_U32_ok ⟨x.value, false⟩ (by simp only; omega)) [3] [] (by decide) (by decide) (by simp) (by first | (simp only [go_sem, hw4]; done) | (simp only [go_sem, hw4] <;> (repeat' apply And.intro) <;> first | rfl | omega | trivial)) (by first | (simp only [go_sem, hw4]; done) | (simp only [go_sem, hw4] <;> (repeat' apply And.intro) <;> first | rfl | omega | trivial)) (by first | (simp only [go_sem, hw4]; done) | (simp only [go_sem, hw4] <;> (repeat' apply And.intro) <;> first | rfl | omega | trivial)) ?_
    try simp only [go_sem, hw4]
    refine hK17 _ _ _ (awp_keep [0, 3, 4] ?_)
    try clear hK17 K17
    try simp only [go_sem, hw4]
    refine awp_seq_k fun K18 hK18 => ?_
    refine awp_regionL (by rfl) ?_
    try simp only [go_sem, hw4]
    refine acall_p (attrs_Next_ok (u4 x.value) h4.1 h4.2) (by first | exact ⟨rfl, trivial⟩ | exact ⟨rfl, rfl, trivial⟩ | exact ⟨rfl, rfl, rfl, trivial⟩ | (simp only [go_sem, hw4]; done) | (simp only [go_sem, hw4] <;> (repeat' apply And.intro) <;> first | rfl | omega | trivial)) ?_
    try simp only [go_sem, hw4]
    refine hK18 _ _ _ (awp_keep [3, 4, 64] ?_)
    try clear hK18 K18
    try simp only [go_sem, hw4]
    refine awp_cond (by rfl) (fun hc5 => ?_) (fun hc5 => ?_)
    ·
     skip
     try simp only [decide_eq_true_eq, decide_eq_false_iff_not, Bool.not_eq_true', Bool.not_eq_false', Bool.and_eq_true, Bool.or_eq_true, Bool.or_eq_false_iff, Bool.and_eq_false_imp] at hc5
     have hf := knF_3f (g := g) hc4 hc5
     refine awp_seq_k fun K19 hK19 => ?_
     refine awp_regionL (by rfl) ?_
     try simp only [go_sem, hw4]
     refine acall_p (attrs_fault_ok 8 x.all) (by first | exact ⟨rfl, trivial⟩ | exact ⟨rfl, rfl, trivial⟩ | exact ⟨rfl, rfl, rfl, trivial⟩ | (simp only [go_sem, hw4]; done) | (simp only [go_sem, hw4] <;> (repeat' apply And.intro) <;> first | rfl | omega | trivial)) ?_
     try simp only [go_sem, hw4]
     refine hK19 _ _ _ (awp_keep [4] ?_)
     try clear hK19 K19
     try simp only [go_sem, hw4]
     refine awp_ret ?_
     try simp only [go_sem, hw4]
     try clear hK19 K19
     try clear hK18 K18
     try clear hK17 K17
     try clear hK16 K16
     try clear hK15 K15
     try clear hK14 K14
     try clear hK13 K13
     try clear hK12 K12
     try clear hK11 K11
     try clear hK10 K10
     try clear hK9 K9
     try clear hK8 K8
     try clear hK7 K7
     try clear hK6 K6
     try clear hK5 K5
     try clear hK4 K4
     try clear hK3 K3
     try clear hK2 K2
     try clear hK1 K1
     refine ret_x [0, 1, 2] (by simp) (by rfl) ?_ (by rfl) ?_ (by rfl) (by simp) (by simp) (by rfl) ?_ <;> ((try simp (disch := omega) only [w_i64, w_u8, w_u16, w_u32, w_u64]); simp only [go_sem, hw4]) <;> ((first | rw [hf] | rw [hg]) <;> (repeat' apply And.intro) <;> first | rfl | (simp; done) | (simp [hp]; done))
    ·
     skip
     try simp only [decide_eq_true_eq, decide_eq_false_iff_not, Bool.not_eq_true', Bool.not_eq_false', Bool.and_eq_true, Bool.or_eq_true, Bool.or_eq_false_iff, Bool.and_eq_false_imp] at hc5
     have hf := knF_3t (g := g) hc4 hc5
     refine awp_skip ?_
     try simp only [go_sem, hw4]
     refine hK3 _ _ _ (awp_keep [4] ?_)
     try simp only [go_sem, hw4]
     refine awp_seq_k fun K20 hK20 => ?_
     refine awp_regionL (by rfl) ?_
     try simp only [go_sem, hw4]
     refine hK20 _ _ _ (awp_keep [4] ?_)
     try clear hK20 K20
     try simp only [go_sem, hw4]
     refine awp_ret ?_
     try simp only [go_sem, hw4]
     try clear hK20 K20
     try clear hK19 K19
     try clear hK18 K18
     try clear hK17 K17
     try clear hK16 K16
     try clear hK15 K15
     try clear hK14 K14
     try clear hK13 K13
     try clear hK12 K12
     try clear hK11 K11
     try clear hK10 K10
     try clear hK9 K9
     try clear hK8 K8
     try clear hK7 K7
     try clear hK6 K6
     try clear hK5 K5
     try clear hK4 K4
     try clear hK3 K3
     try clear hK2 K2
     try clear hK1 K1
     refine ret_x [0, 1, 2] (by simp) (by rfl) ?_ (by rfl) ?_ (by rfl) (by simp) (by simp) (by rfl) ?_ <;> ((try simp (disch := omega) only [w_i64, w_u8, w_u16, w_u32, w_u64]); simp only [go_sem, hw4]) <;> ((first | rw [hf] | rw [hg]) <;> (repeat' apply And.intro) <;> first | rfl | (simp; done) | (simp [hp]; done))
   ·
    skip
    try simp only [decide_eq_true_eq, decide_eq_false_iff_not, Bool.not_eq_true', Bool.not_eq_false', Bool.and_eq_true, Bool.or_eq_true, Bool.or_eq_false_iff, Bool.and_eq_false_imp] at hc4
    refine awp_seq_k fun K21 hK21 => ?_
    refine awp_regionL (by rfl) ?_
    try simp only [go_sem, hw4]
    refine hK21 _ _ _ (awp_keep [0, 3, 4, 5, 12, 68] ?_)
    try clear hK21 K21
    try simp only [go_sem, hw4]
    refine awp_cond (by rfl) (fun hc6 => ?_) (fun hc6 => ?_)
    ·
     skip
     try simp only [decide_eq_true_eq, decide_eq_false_iff_not, Bool.not_eq_true', Bool.not_eq_false', Bool.and_eq_true, Bool.or_eq_true, Bool.or_eq_false_iff, Bool.and_eq_false_imp] at hc6
     have hg := knG_4 (g := g) hc6
     have hf := knF_0 (g := g) (x := x) (by omega) (by omega) (by omega) (by omega)
     refine awp_regionL (by rfl) ?_
     try simp only [go_sem, hw4]
     refine acall_x (octet_U32_ok ⟨x.value, false⟩ (by simp only; omega)) [3] [] (by decide) (by decide) (by simp) (by first | (simp only [go_sem, hw4]; done) | (simp only [go_sem, hw4] <;> (repeat' apply And.intro) <;> first | rfl | omega | trivial)) (by first | (simp only [go_sem, hw4]; done) | (simp only [go_sem, hw4] <;> (repeat' apply And.intro) <;> first | rfl | omega | trivial)) (by first | (simp only [go_sem, hw4]; done) | (simp only [go_sem, hw4] <;> (repeat' apply And.intro) <;> first | rfl | omega | trivial)) ?_
     try simp only [go_sem, hw4]
     try simp (disch := omega) only [w_i64, w_u8, w_u16, w_u32, w_u64]
     refine hK3 _ _ _ (awp_keep [4] ?_)
     try simp only [go_sem, hw4]
     refine awp_seq_k fun K22 hK22 => ?_
     refine awp_regionL (by rfl) ?_
     try simp only [go_sem, hw4]
     refine hK22 _ _ _ (awp_keep [4] ?_)
     try clear hK22 K22
     try simp only [go_sem, hw4]
     refine awp_ret ?_
     try simp only [go_sem, hw4]
     try clear hK22 K22
     try clear hK21 K21
     try clear hK20 K20
     try clear hK19 K19
     try clear hK18 K18
     try clear hK17 K17
     try clear hK16 K16
     try clear hK15 K15
     try clear hK14 K14
     try clear hK13 K13
     try clear hK12 K12
     try clear hK11 K11
     try clear hK10 K10
     try clear hK9 K9
     try clear hK8 K8
     try clear hK7 K7
     try clear hK6 K6
     try clear hK5 K5
     try clear hK4 K4
     try clear hK3 K3
     try clear hK2 K2
     try clear hK1 K1
     refine ret_x [0, 1, 2] (by simp) (by rfl) ?_ (by rfl) ?_ (by rfl) (by simp) (by simp) (by rfl) ?_ <;> ((try simp (disch := omega) only [w_i64, w_u8, w_u16, w_u32, w_u64]); simp only [go_sem, hw4]) <;> ((first | rw [hf] | rw [hg]) <;> (repeat' apply And.intro) <;> first | rfl | (simp; done) | (simp [hp]; done))
    ·
     skip
     try simp only [decide_eq_true_eq, decide_eq_false_iff_not, Bool.not_eq_true', Bool.not_eq_false', Bool.and_eq_true, Bool.or_eq_true, Bool.or_eq_false_iff, Bool.and_eq_false_imp] at hc6
     refine awp_seq_k fun K23 hK23 => ?_
     refine awp_regionL (by rfl) ?_
     try simp only [go_sem, hw4]
     refine hK23 _ _ _ (awp_keep [0, 3, 4, 5, 12, 77] ?_)
     try clear hK23 K23
     try simp only [go_sem, hw4]
     refine awp_cond (by rfl) (fun hc7 => ?_) (fun hc7 => ?_)
     ·
      skip
      try simp only [decide_eq_true_eq, decide_eq_false_iff_not, Bool.not_eq_true', Bool.not_eq_false', Bool.and_eq_true, Bool.or_eq_true, Bool.or_eq_false_iff, Bool.and_eq_false_imp] at hc7
      have hg := knG_5 (g := g) hc7
      have hf := knF_0 (g := g) (x := x) (by omega) (by omega) (by omega) (by omega)
      refine awp_regionL (by rfl) ?_
      try simp only [go_sem, hw4]
      refine acall_x (octet_U32_ok ⟨x.value, false⟩ (by simp only; omega)) [3] [] (by decide) (by decide) (by simp) (by first | (simp only [go_sem, hw4]; done) | (simp only [go_sem, hw4] <;> (repeat' apply And.intro) <;> first | rfl | omega | trivial)) (by first | (simp only [go_sem, hw4]; done) | (simp only [go_sem, hw4] <;> (repeat' apply And.intro) <;> first | rfl | omega | trivial)) (by first | (simp only [go_sem, hw4]; done) | (simp only [go_sem, hw4] <;> (repeat' apply And.intro) <;> first | rfl | omega | trivial)) ?_
      try simp only [go_sem, hw4]
      try simp (disch := omega) only [w_i64, w_u8, w_u16, w_u32, w_u64]
      refine hK3 _ _ _ (awp_keep [4] ?_)
      try simp only [go_sem, hw4]
      refine awp_seq_k fun K24 hK24 => ?_
      refine awp_regionL (by rfl) ?_
      try simp only [go_sem, hw4]
      refine hK24 _ _ _ (awp_keep [4] ?_)
      try clear hK24 K24
      try simp only [go_sem, hw4]
      refine awp_ret ?_
      try simp only [go_sem, hw4]
      try clear hK24 K24
      try clear hK23 K23
      try clear hK22 K22
      try clear hK21 K21
      try clear hK20 K20
      try clear hK19 K19
      try clear hK18 K18
      try clear hK17 K17
      try clear hK16 K16
      try clear hK15 K15
      try clear hK14 K14
      try clear hK13 K13
      try clear hK12 K12
      try clear hK11 K11
      try clear hK10 K10
      try clear hK9 K9
      try clear hK8 K8
      try clear hK7 K7
      try clear hK6 K6
      try clear hK5 K5
      try clear hK4 K4
      try clear hK3 K3
      try clear hK2 K2
      try clear hK1 K1
      refine ret_x [0, 1, 2] (by simp) (by rfl) ?_ (by rfl) ?_ (by rfl) (by simp) (by simp) (by rfl) ?_ <;> ((try simp (disch := omega) only [w_i64, w_u8, w_u16, w_u32, w_u64]); simp only [go_sem, hw4]) <;> ((first | rw [hf] | rw [hg]) <;> (repeat' apply And.intro) <;> first | rfl | (simp; done) | (simp [hp]; done))
     ·
      skip
      try simp only [decide_eq_true_eq, decide_eq_false_iff_not, Bool.not_eq_true', Bool.not_eq_false', Bool.and_eq_true, Bool.or_eq_true, Bool.or_eq_false_iff, Bool.and_eq_false_imp] at hc7
      refine awp_seq_k fun K25 hK25 => ?_
      refine awp_regionL (by rfl) ?_
      try simp only [go_sem, hw4]
      refine hK25 _ _ _ (awp_keep [0, 3, 4, 12, 86] ?_)
      try clear hK25 K25
      try simp only [go_sem, hw4]
      refine awp_cond (by rfl) (fun hc8 => ?_) (fun hc8 => ?_)
      ·
       skip
       try simp only [decide_eq_true_eq, decide_eq_false_iff_not, Bool.not_eq_true', Bool.not_eq_false', Bool.and_eq_true, Bool.or_eq_true, Bool.or_eq_false_iff, Bool.and_eq_false_imp] at hc8
       have hg := knG_6 (g := g) hc8
       have hf := knF_0 (g := g) (x := x) (by omega) (by omega) (by omega) (by omega)
       refine awp_regionL (by rfl) ?_
       try simp only [go_sem, hw4]
       refine hK3 _ _ _ (awp_keep [4] ?_)
       try simp only [go_sem, hw4]
       refine awp_seq_k fun K26 hK26 => ?_
       refine awp_regionL (by rfl) ?_
       try simp only [go_sem, hw4]
       refine hK26 _ _ _ (awp_keep [4] ?_)
       try clear hK26 K26
       try simp only [go_sem, hw4]
       refine awp_ret ?_
       try simp only [go_sem, hw4]
       try clear hK26 K26
       try clear hK25 K25
       try clear hK24 K24
       try clear hK23 K23
       try clear hK22 K22
       try clear hK21 K21
       try clear hK20 K20
       try clear hK19 K19
       try clear hK18 K18
       try clear hK17 K17
       try clear hK16 K16
       try clear hK15 K15
       try clear hK14 K14
       try clear hK13 K13
       try clear hK12 K12
       try clear hK11 K11
       try clear hK10 K10
       try clear hK9 K9
       try clear hK8 K8
       try clear hK7 K7
       try clear hK6 K6
       try clear hK5 K5
       try clear hK4 K4
       try clear hK3 K3
       try clear hK2 K2
       try clear hK1 K1
       refine ret_x [0, 1, 2] (by simp) (by rfl) ?_ (by rfl) ?_ (by rfl) (by simp) (by simp) (by rfl) ?_ <;> ((try simp (disch := omega) only [w_i64, w_u8, w_u16, w_u32, w_u64]); simp only [go_sem, hw4]) <;> ((first | rw [hf] | rw [hg]) <;> (repeat' apply And.intro) <;> first | rfl | (simp; done) | (simp [hp]; done))
      ·
       skip
       try simp only [decide_eq_true_eq, decide_eq_false_iff_not, Bool.not_eq_true', Bool.not_eq_false', Bool.and_eq_true, Bool.or_eq_true, Bool.or_eq_false_iff, Bool.and_eq_false_imp] at hc8
       refine awp_seq_k fun K27 hK27 => ?_
       refine awp_regionL (by rfl) ?_
       try simp only [go_sem, hw4]
       refine hK27 _ _ _ (awp_keep [0, 3, 4, 12, 92] ?_)
       try clear hK27 K27
       try simp only [go_sem, hw4]
       refine awp_cond (by rfl) (fun hc9 => ?_) (fun hc9 => ?_)
       ·
        skip
        try simp only [decide_eq_true_eq, decide_eq_false_iff_not, Bool.not_eq_true', Bool.not_eq_false', Bool.and_eq_true, Bool.or_eq_true, Bool.or_eq_false_iff, Bool.and_eq_false_imp] at hc9
        have hg := knG_7 (g := g) hc9
        have hf := knF_0 (g := g) (x := x) (by omega) (by omega) (by omega) (by omega)
        refine awp_regionL (by rfl) ?_
        try simp only [go_sem, hw4]
        refine acall_x (aggr_ok g x (by omega)) [0] [0, 1, 2] (by decide) (by decide) (by simp) (by first | (simp only [go_sem, hw4]; done) | (simp only [go_sem, hw4] <;> (repeat' apply And.intro) <;> first | rfl | omega | trivial)) (by first | (simp only [go_sem, hw4]; done) | (simp only [go_sem, hw4] <;> (repeat' apply And.intro) <;> first | rfl | omega | trivial)) (by first | (simp only [go_sem, hw4]; done) | (simp only [go_sem, hw4] <;> (repeat' apply And.intro) <;> first | rfl | omega | trivial)) ?_
        try simp only [go_sem, hw4]
        refine hK3 _ _ _ (awp_keep [4] ?_)
        try simp only [go_sem, hw4]
        refine awp_seq_k fun K28 hK28 => ?_
        refine awp_regionL (by rfl) ?_
        try simp only [go_sem, hw4]
        refine hK28 _ _ _ (awp_keep [4] ?_)
        try clear hK28 K28
        try simp only [go_sem, hw4]
        refine awp_ret ?_
        try simp only [go_sem, hw4]
        try clear hK28 K28
        try clear hK27 K27
        try clear hK26 K26
        try clear hK25 K25
        try clear hK24 K24
        try clear hK23 K23
        try clear hK22 K22
        try clear hK21 K21
        try clear hK20 K20
        try clear hK19 K19
        try clear hK18 K18
        try clear hK17 K17
        try clear hK16 K16
        try clear hK15 K15
        try clear hK14 K14
        try clear hK13 K13
        try clear hK12 K12
        try clear hK11 K11
        try clear hK10 K10
        try clear hK9 K9
        try clear hK8 K8
        try clear hK7 K7
        try clear hK6 K6
        try clear hK5 K5
        try clear hK4 K4
        try clear hK3 K3
        try clear hK2 K2
        try clear hK1 K1
        refine ret_x [0, 1, 2] (by simp) (by rfl) ?_ (by rfl) ?_ (by rfl) (by simp) (by simp) (by rfl) ?_ <;> ((try simp (disch := omega) only [w_i64, w_u8, w_u16, w_u32, w_u64]); simp only [go_sem, hw4]) <;> ((first | rw [hf] | rw [hg]) <;> (repeat' apply And.intro) <;> first | rfl | (simp; done) | (simp [hp]; done))
       ·
        skip
        try simp only [decide_eq_true_eq, decide_eq_false_iff_not, Bool.not_eq_true', Bool.not_eq_false', Bool.and_eq_true, Bool.or_eq_true, Bool.or_eq_false_iff, Bool.and_eq_false_imp] at hc9
        refine awp_seq_k fun K29 hK29 => ?_
        refine awp_regionL (by rfl) ?_
        try simp only [go_sem, hw4]
        refine hK29 _ _ _ (awp_keep [0, 3, 4, 12, 97] ?_)
        try clear hK29 K29
        try simp only [go_sem, hw4]
        refine awp_cond (by rfl) (fun hc10 => ?_) (fun hc10 => ?_)
        ·
         skip
         try simp only [decide_eq_true_eq, decide_eq_false_iff_not, Bool.not_eq_true', Bool.not_eq_false', Bool.and_eq_true, Bool.or_eq_true, Bool.or_eq_false_iff, Bool.and_eq_false_imp] at hc10
         have hg := knG_8 (g := g) hc10
         have hf := knF_8 (g := g) hc10
         refine awp_seq_k fun K30 hK30 => ?_
         refine awp_regionL (by rfl) ?_
         try simp only [go_sem, hw4]
         refine acall_x (list_ok g x hv) [0] [0, 1, 2] (by decide) (by decide) (by simp) (by first | (simp only [go_sem, hw4]; done) | (simp only [go_sem, hw4] <;> (repeat' apply And.intro) <;> first | rfl | omega | trivial)) (by first | (simp only [go_sem, hw4]; done) | (simp only [go_sem, hw4] <;> (repeat' apply And.intro) <;> first | rfl | omega | trivial)) (by first | (simp only [go_sem, hw4]; done) | (simp only [go_sem, hw4] <;> (repeat' apply And.intro) <;> first | rfl | omega | trivial)) ?_
         try simp only [go_sem, hw4]
         refine hK30 _ _ _ (awp_keep [4] ?_)
         try clear hK30 K30
         try simp only [go_sem, hw4]
         refine awp_ret ?_
         try simp only [go_sem, hw4]
         try clear hK30 K30
         try clear hK29 K29
         try clear hK28 K28
         try clear hK27 K27
         try clear hK26 K26
         try clear hK25 K25
         try clear hK24 K24
         try clear hK23 K23
         try clear hK22 K22
         try clear hK21 K21
         try clear hK20 K20
         try clear hK19 K19
         try clear hK18 K18
         try clear hK17 K17
         try clear hK16 K16
         try clear hK15 K15
         try clear hK14 K14
         try clear hK13 K13
         try clear hK12 K12
         try clear hK11 K11
         try clear hK10 K10
         try clear hK9 K9
         try clear hK8 K8
         try clear hK7 K7
         try clear hK6 K6
         try clear hK5 K5
         try clear hK4 K4
         try clear hK3 K3
         try clear hK2 K2
         try clear hK1 K1
         refine ret_x [0, 1, 2] (by simp) (by rfl) ?_ (by rfl) ?_ (by rfl) (by simp) (by simp) (by rfl) ?_ <;> ((try simp (disch := omega) only [w_i64, w_u8, w_u16, w_u32, w_u64]); simp only [go_sem, hw4]) <;> ((first | rw [hf] | rw [hg]) <;> (repeat' apply And.intro) <;> first | rfl | (simp; done) | (simp [hp]; done))
        ·
         skip
         try simp only [decide_eq_true_eq, decide_eq_false_iff_not, Bool.not_eq_true', Bool.not_eq_false', Bool.and_eq_true, Bool.or_eq_true, Bool.or_eq_false_iff, Bool.and_eq_false_imp] at hc10
         refine awp_seq_k fun K31 hK31 => ?_
         refine awp_regionL (by rfl) ?_
         try simp only [go_sem, hw4]
         refine hK31 _ _ _ (awp_keep [0, 3, 4, 12, 102] ?_)
         try clear hK31 K31
         try simp only [go_sem, hw4]
         refine awp_cond (by rfl) (fun hc11 => ?_) (fun hc11 => ?_)
         ·
          skip
          try simp only [decide_eq_true_eq, decide_eq_false_iff_not, Bool.not_eq_true', Bool.not_eq_false', Bool.and_eq_true, Bool.or_eq_true, Bool.or_eq_false_iff, Bool.and_eq_false_imp] at hc11
          have hg := knG_17 (g := g) hc11
          have hf := knF_0 (g := g) (x := x) (by omega) (by omega) (by omega) (by omega)
          refine awp_regionL (by rfl) ?_
          try simp only [go_sem, hw4]
          refine acall_p (aspath_Read_ok x.value true (by omega)) (by first | exact ⟨rfl, trivial⟩ | exact ⟨rfl, rfl, trivial⟩ | exact ⟨rfl, rfl, rfl, trivial⟩ | (simp only [go_sem, hw4]; done) | (simp only [go_sem, hw4] <;> (repeat' apply And.intro) <;> first | rfl | omega | trivial)) ?_
          try simp only [go_sem, hw4]
          refine hK3 _ _ _ (awp_keep [4] ?_)
          try simp only [go_sem, hw4]
          refine awp_seq_k fun K32 hK32 => ?_
          refine awp_regionL (by rfl) ?_
          try simp only [go_sem, hw4]
          refine hK32 _ _ _ (awp_keep [4] ?_)
          try clear hK32 K32
          try simp only [go_sem, hw4]
          refine awp_ret ?_
          try simp only [go_sem, hw4]
          try clear hK32 K32
          try clear hK31 K31
          try clear hK30 K30
          try clear hK29 K29
          try clear hK28 K28
          try clear hK27 K27
          try clear hK26 K26
          try clear hK25 K25
          try clear hK24 K24
          try clear hK23 K23
          try clear hK22 K22
          try clear hK21 K21
          try clear hK20 K20
          try clear hK19 K19
          try clear hK18 K18
          try clear hK17 K17
          try clear hK16 K16
          try clear hK15 K15
          try clear hK14 K14
          try clear hK13 K13
          try clear hK12 K12
          try clear hK11 K11
          try clear hK10 K10
          try clear hK9 K9
          try clear hK8 K8
          try clear hK7 K7
          try clear hK6 K6
          try clear hK5 K5
          try clear hK4 K4
          try clear hK3 K3
          try clear hK2 K2
          try clear hK1 K1
          refine ret_x [0, 1, 2] (by simp) (by rfl) ?_ (by rfl) ?_ (by rfl) (by simp) (by simp) (by rfl) ?_ <;> ((try simp (disch := omega) only [w_i64, w_u8, w_u16, w_u32, w_u64]); simp only [go_sem, hw4]) <;> ((first | rw [hf] | rw [hg]) <;> (repeat' apply And.intro) <;> first | rfl | (simp; done) | (simp [hp]; done))
         ·
          skip
          try simp only [decide_eq_true_eq, decide_eq_false_iff_not, Bool.not_eq_true', Bool.not_eq_false', Bool.and_eq_true, Bool.or_eq_true, Bool.or_eq_false_iff, Bool.and_eq_false_imp] at hc11
          refine awp_seq_k fun K33 hK33 => ?_
          refine awp_regionL (by rfl) ?_
          try simp only [go_sem, hw4]
          refine hK33 _ _ _ (awp_keep [0, 3, 4, 113] ?_)
          try clear hK33 K33
          try simp only [go_sem, hw4]
          refine awp_cond (by rfl) (fun hc12 => ?_) (fun hc12 => ?_)
          ·
           skip
           try simp only [decide_eq_true_eq, decide_eq_false_iff_not, Bool.not_eq_true', Bool.not_eq_false', Bool.and_eq_true, Bool.or_eq_true, Bool.or_eq_false_iff, Bool.and_eq_false_imp] at hc12
           have hf := knF_0 (g := g) (x := x) (by omega) (by omega) (by omega) (by omega)
           refine awp_seq_k fun K34 hK34 => ?_
           refine awp_regionL (by rfl) ?_
           try simp only [go_sem, hw4]
           refine hK34 _ _ _ (awp_keep [0, 3, 4, 118] ?_)
           try clear hK34 K34
           try simp only [go_sem, hw4]
           refine awp_cond (by rfl) (fun hc13 => ?_) (fun hc13 => ?_)
           ·
            skip
            try simp only [decide_eq_true_eq, decide_eq_false_iff_not, Bool.not_eq_true', Bool.not_eq_false', Bool.and_eq_true, Bool.or_eq_true, Bool.or_eq_false_iff, Bool.and_eq_false_imp] at hc13
            have hg := knG_18t (g := g) hc12 hc13
            refine awp_regionL (by rfl) ?_
            try simp only [go_sem, hw4]
            refine hK3 _ _ _ (awp_keep [4] ?_)
            try simp only [go_sem, hw4]
            refine awp_seq_k fun K35 hK35 => ?_
            refine awp_regionL (by rfl) ?_
            try simp only [go_sem, hw4]
            refine hK35 _ _ _ (awp_keep [4] ?_)
            try clear hK35 K35
            try simp only [go_sem, hw4]
            refine awp_ret ?_
            try simp only [go_sem, hw4]
            try clear hK35 K35
            try clear hK34 K34
            try clear hK33 K33
            try clear hK32 K32
            try clear hK31 K31
            try clear hK30 K30
            try clear hK29 K29
            try clear hK28 K28
            try clear hK27 K27
            try clear hK26 K26
            try clear hK25 K25
            try clear hK24 K24
            try clear hK23 K23
            try clear hK22 K22
            try clear hK21 K21
            try clear hK20 K20
            try clear hK19 K19
            try clear hK18 K18
            try clear hK17 K17
            try clear hK16 K16
            try clear hK15 K15
            try clear hK14 K14
            try clear hK13 K13
            try clear hK12 K12
            try clear hK11 K11
            try clear hK10 K10
            try clear hK9 K9
            try clear hK8 K8
            try clear hK7 K7
            try clear hK6 K6
            try clear hK5 K5
            try clear hK4 K4
            try clear hK3 K3
            try clear hK2 K2
            try clear hK1 K1
            refine ret_x [0, 1, 2] (by simp) (by rfl) ?_ (by rfl) ?_ (by rfl) (by simp) (by simp) (by rfl) ?_ <;> ((try simp (disch := omega) only [w_i64, w_u8, w_u16, w_u32, w_u64]); simp only [go_sem, hw4]) <;> ((first | rw [hf] | rw [hg]) <;> (repeat' apply And.intro) <;> first | rfl | (simp; done) | (simp [hp]; done))
           ·
            skip
            try simp only [decide_eq_true_eq, decide_eq_false_iff_not, Bool.not_eq_true', Bool.not_eq_false', Bool.and_eq_true, Bool.or_eq_true, Bool.or_eq_false_iff, Bool.and_eq_false_imp] at hc13
            have hg := knG_18f (g := g) hc12 hc13
            refine awp_skip ?_
            try simp only [go_sem, hw4]
            refine hK3 _ _ _ (awp_keep [4] ?_)
            try simp only [go_sem, hw4]
            refine awp_seq_k fun K36 hK36 => ?_
            refine awp_regionL (by rfl) ?_
            try simp only [go_sem, hw4]
            refine hK36 _ _ _ (awp_keep [4] ?_)
            try clear hK36 K36
            try simp only [go_sem, hw4]
            refine awp_ret ?_
            try simp only [go_sem, hw4]
            try clear hK36 K36
            try clear hK35 K35
            try clear hK34 K34
            try clear hK33 K33
            try clear hK32 K32
            try clear hK31 K31
            try clear hK30 K30
            try clear hK29 K29
            try clear hK28 K28
            try clear hK27 K27
            try clear hK26 K26
            try clear hK25 K25
            try clear hK24 K24
            try clear hK23 K23
            try clear hK22 K22
            try clear hK21 K21
            try clear hK20 K20
            try clear hK19 K19
            try clear hK18 K18
            try clear hK17 K17
            try clear hK16 K16
            try clear hK15 K15
            try clear hK14 K14
            try clear hK13 K13
            try clear hK12 K12
            try clear hK11 K11
            try clear hK10 K10
            try clear hK9 K9
            try clear hK8 K8
            try clear hK7 K7
            try clear hK6 K6
            try clear hK5 K5
            try clear hK4 K4
            try clear hK3 K3
            try clear hK2 K2
            try clear hK1 K1
            refine ret_x [0, 1, 2] (by simp) (by rfl) ?_ (by rfl) ?_ (by rfl) (by simp) (by simp) (by rfl) ?_ <;> ((try simp (disch := omega) only [w_i64, w_u8, w_u16, w_u32, w_u64]); simp only [go_sem, hw4]) <;> ((first | rw [hf] | rw [hg]) <;> (repeat' apply And.intro) <;> first | rfl | (simp; done) | (simp [hp]; done))
          ·
           skip
           try simp only [decide_eq_true_eq, decide_eq_false_iff_not, Bool.not_eq_true', Bool.not_eq_false', Bool.and_eq_true, Bool.or_eq_true, Bool.or_eq_false_iff, Bool.and_eq_false_imp] at hc12
           have hf := knF_0 (g := g) (x := x) (by omega) (by omega) (by omega) (by omega)
           have hg := knG_0 (g := g) hc0 hc2 hc4 hc6 hc7 hc8 hc9 hc10 hc11 hc12
           refine awp_skip ?_
           try simp only [go_sem, hw4]
           refine hK3 _ _ _ (awp_keep [4] ?_)
           try simp only [go_sem, hw4]
           refine awp_seq_k fun K37 hK37 => ?_
           refine awp_regionL (by rfl) ?_
           try simp only [go_sem, hw4]
           refine hK37 _ _ _ (awp_keep [4] ?_)
           try clear hK37 K37
           try simp only [go_sem, hw4]
           refine awp_ret ?_
           try simp only [go_sem, hw4]
           try clear hK37 K37
           try clear hK36 K36
           try clear hK35 K35
           try clear hK34 K34
           try clear hK33 K33
           try clear hK32 K32
           try clear hK31 K31
           try clear hK30 K30
           try clear hK29 K29
           try clear hK28 K28
           try clear hK27 K27
           try clear hK26 K26
           try clear hK25 K25
           try clear hK24 K24
           try clear hK23 K23
           try clear hK22 K22
           try clear hK21 K21
           try clear hK20 K20
           try clear hK19 K19
           try clear hK18 K18
           try clear hK17 K17
           try clear hK16 K16
           try clear hK15 K15
           try clear hK14 K14
           try clear hK13 K13
           try clear hK12 K12
           try clear hK11 K11
           try clear hK10 K10
           try clear hK9 K9
           try clear hK8 K8
           try clear hK7 K7
           try clear hK6 K6
           try clear hK5 K5
           try clear hK4 K4
           try clear hK3 K3
           try clear hK2 K2
           try clear hK1 K1
           refine ret_x [0, 1, 2] (by simp) (by rfl) ?_ (by rfl) ?_ (by rfl) (by simp) (by simp) (by rfl) ?_ <;> ((try simp (disch := omega) only [w_i64, w_u8, w_u16, w_u32, w_u64]); simp only [go_sem, hw4]) <;> ((first | rw [hf] | rw [hg]) <;> (repeat' apply And.intro) <;> first | rfl | (simp; done) | (simp [hp]; done))
end

end Go.Abs
