/-
  READING ATTRIBUTES, 4: what an attribute looks like; one that is not known.
-/
import Derived.Test.YtajeoodipplmlaaDoorT22
import Derived.Test.YtajeoodipplmlaaDoorT6
set_option linter.all false
namespace Go.Abs
open Go Go.Proofs
/-- Attributes on their way. -/
structure Rdg where
  a : Attrs
  kinds : List Int
  more : List Seg
  hasOld : Bool
  oldAS : Int
  newAS : List Int
  wide : Bool
def Rdg.cells (g : Rdg) : List LV := [.int .i64 g.a.origin, segs g.a.path, .int .u32 g.a.next, .int .i64 g.a.med, .int .i64 g.a.pref, .bool g.a.atomic, .bool g.a.hasAggr, .int .u32 g.a.aggrAS, .int .u32 g.a.aggrAddr,
  .slice (.row 1) 1 (ul g.a.comms), .slice (.row 2) 3 (rwl g.a.raws), .slice (.row 0) 1 (il g.kinds), segs g.more, .bool g.hasOld, .int .u32 g.oldAS, bytes g.newAS, .bool g.wide]
def Rdg.blk (g : Rdg) : Blk := ⟨72, g.cells⟩
def Rdg.rows (g : Rdg) : RowsA := [(3, g.kinds.length), (23, g.a.comms.length), (53, g.a.raws.length)]
def noF : Flt := ⟨0, 0, []⟩
def badS (w : Bool) (x : One) (l m : Int) : Bool :=
  if x.kind = 7 then (w && !decide ((x.value.length : Int) = 8)) || (!w && !decide ((x.value.length : Int) = 6))
  else if x.kind = 8 then !decide ((x.value.length : Int).tmod 4 = 0)
  else decide ((x.value.length : Int) < l) || decide (m < (x.value.length : Int))
def form0 (x : One) (f : Int) : Bool := !decide (bits .and .i64 x.flags 192 = f) || (!decide (bits .and .i64 x.flags 32 = 0) && !decide (f = 192))
def formF (w : Bool) (x : One) (f l m : Int) : Flt :=
  if form0 x f = true then ⟨3, 4, x.all⟩
  else if badS w x l m = true then ⟨3, 5, x.all⟩ else noF

section
attribute [local go_sem] Rdg.blk Rdg.cells Rdg.rows One.cells bytes segs Flt.cells if_true
set_option maxRecDepth 20000 in
set_option maxHeartbeats 8000000 in
theorem form_ok (g : Rdg) (x : One) (k : Nat) (hk : k < 19) (hx : x.kind = k) (f l m : Int) (hl : (looksC.drop (k * 3)).take 3 = [.int .i64 f, .int .i64 l, .int .i64 m]) : ACX Go.Proofs.Tryd.prog G0 54 [.l (.ptr 0 0), .agg x.cells] [g.blk] g.rows (.agg (formF g.wide x f l m).cells) [g.blk] g.rows := by
 refine acalls_intro Go.Proofs.Tryd.func54 rfl (by kernel_rfl) Go.Proofs.Tryd.ntmps54 Go.Proofs.Tryd.results54 (by simp) rfl rfl ?_
 try simp only [go_sem, hkk, hl, hx, hle]
 have hkk : (k : Int).toNat = k := by omega
 have hle : k * 3 + 3 ≤ looksC.length := by simp [looksC]; omega
 refine awp_seq_k fun K1 hK1 => ?_
 refine awp_regionL (by rfl) ?_
 try simp only [go_sem, hkk, hl, hx, hle]
 refine hK1 _ _ _ (awp_keep [0, 3, 4] ?_)
 try clear hK1 K1
 try simp only [go_sem, hkk, hl, hx, hle]
 refine awp_seq_k fun K2 hK2 => ?_
 refine awp_regionL (by rfl) ?_
 try simp only [go_sem, hkk, hl, hx, hle]
 refine Must.intro (by omega) ?_
 try simp only [go_sem, hkk, hl, hx, hle]
 refine hK2 _ _ _ (awp_keep [0, 3, 4, 5] ?_)
 try clear hK2 K2
 try simp only [go_sem, hkk, hl, hx, hle]
 refine awp_seq_k fun K3 hK3 => ?_
 refine awp_regionL (by rfl) ?_
 try simp only [go_sem, hkk, hl, hx, hle]
 refine hK3 _ _ _ (awp_keep [0, 3, 4, 5, 6] ?_)
 try clear hK3 K3
 try simp only [go_sem, hkk, hl, hx, hle]
 refine awp_seq_k fun K4 hK4 => ?_
 refine awp_seq_k fun K5 hK5 => ?_
 refine awp_regionL (by rfl) ?_
 try simp only [go_sem, hkk, hl, hx, hle]
 repeat (refine Must.au ?_; try simp only [go_sem])
 refine hK5 _ _ _ (awp_keep [0, 3, 4, 5, 31] ?_)
 try clear hK5 K5
 try simp only [go_sem, hkk, hl, hx, hle]
 refine awp_cond (by rfl) (fun hc0 => ?_) (fun hc0 => ?_)
 ·
  skip
  try simp only [decide_eq_true_eq, decide_eq_false_iff_not, Bool.not_eq_true', Bool.not_eq_false', Bool.and_eq_true, Bool.or_eq_true, Bool.or_eq_false_iff, Bool.and_eq_false_imp] at hc0
  have h0 : form0 x f = true := by unfold form0; simpa using hc0
  have hf : formF g.wide x f l m = ⟨3, 4, x.all⟩ := by unfold formF; rw [if_pos h0]
  refine awp_seq_k fun K6 hK6 => ?_
  refine awp_regionL (by rfl) ?_
  try simp only [go_sem, hkk, hl, hx, hle]
  refine acall_p (attrs_fault_ok 4 x.all) (by first | exact ⟨rfl, trivial⟩ | exact ⟨rfl, rfl, trivial⟩ | exact ⟨rfl, rfl, rfl, trivial⟩ | (simp only [go_sem, hkk, hl, hx, hle]; done) | (simp only [go_sem, hkk, hl, hx, hle] <;> (repeat' apply And.intro) <;> first | rfl | omega | trivial)) ?_
  try simp only [go_sem, hkk, hl, hx, hle]
  refine hK6 _ _ _ (awp_keep [4] ?_)
  try clear hK6 K6
  try simp only [go_sem, hkk, hl, hx, hle]
  refine awp_ret ?_
  try simp only [go_sem, hkk, hl, hx, hle]
  try clear hK6 K6
  try clear hK5 K5
  try clear hK4 K4
  try clear hK3 K3
  try clear hK2 K2
  try clear hK1 K1
  refine ret_x [0, 1, 2] (by simp) (by rfl) ?_ (by rfl) ?_ (by rfl) (by simp) (by simp) (by rfl) ?_ <;> ((try simp (disch := omega) only [w_i64, w_u8, w_u16, w_u32, w_u64]); simp only [go_sem, hkk, hl, hx, hle]) <;> ((rw [hf]; exact ⟨rfl, rfl, rfl⟩))
 ·
  skip
  try simp only [decide_eq_true_eq, decide_eq_false_iff_not, Bool.not_eq_true', Bool.not_eq_false', Bool.and_eq_true, Bool.or_eq_true, Bool.or_eq_false_iff, Bool.and_eq_false_imp] at hc0
  have h0 : form0 x f = false := by unfold form0; simpa using hc0
  refine awp_skip ?_
  try simp only [go_sem, hkk, hl, hx, hle]
  refine hK4 _ _ _ (awp_keep [0, 3, 4, 5] ?_)
  try clear hK4 K4
  try simp only [go_sem, hkk, hl, hx, hle]
  refine awp_seq_k fun K7 hK7 => ?_
  refine awp_regionL (by rfl) ?_
  try simp only [go_sem, hkk, hl, hx, hle]
  refine hK7 _ _ _ (awp_keep [0, 3, 4, 5, 7] ?_)
  try clear hK7 K7
  try simp only [go_sem, hkk, hl, hx, hle]
  refine awp_seq_k fun K8 hK8 => ?_
  refine awp_regionL (by rfl) ?_
  try simp only [go_sem, hkk, hl, hx, hle]
  repeat (refine Must.au ?_; try simp only [go_sem])
  refine hK8 _ _ _ (awp_keep [0, 3, 4, 7, 8] ?_)
  try clear hK8 K8
  try simp only [go_sem, hkk, hl, hx, hle]
  refine awp_joinE (α := Unit) (fun (_u : Unit) => True) (fun (_u : Unit) => [(8, .l (.bool (badS g.wide x l m)))]) (fun (_u : Unit) => [g.blk, ⟨75, x.cells⟩, ⟨46, noF.cells⟩, ⟨56, [.int .i64 f, .int .i64 l, .int .i64 m]⟩]) (fun (_u : Unit) => g.rows) [3, 4] (fun K9 hK9 => ?_) ?_
  ·
   skip
   refine awp_seq_k fun K10 hK10 => ?_
   refine awp_regionL (by rfl) ?_
   try simp only [go_sem, hkk, hl, hx, hle]
   refine hK10 _ _ _ (awp_keep [0, 3, 4, 7, 8, 49] ?_)
   try clear hK10 K10
   try simp only [go_sem, hkk, hl, hx, hle]
   refine awp_block ?_
   refine awp_seq_k fun K11 hK11 => ?_
   refine awp_regionL (by rfl) ?_
   try simp only [go_sem, hkk, hl, hx, hle]
   refine hK11 _ _ _ (awp_keep [0, 3, 4, 7, 8, 49, 50] ?_)
   try clear hK11 K11
   try simp only [go_sem, hkk, hl, hx, hle]
   refine awp_cond (by rfl) (fun hc1 => ?_) (fun hc1 => ?_)
   ·
    skip
    try simp only [decide_eq_true_eq, decide_eq_false_iff_not, Bool.not_eq_true', Bool.not_eq_false', Bool.and_eq_true, Bool.or_eq_true, Bool.or_eq_false_iff, Bool.and_eq_false_imp] at hc1
    refine awp_regionL (by rfl) ?_
    try simp only [go_sem, hkk, hl, hx, hle]
    repeat (refine Must.au ?_; try simp only [go_sem])
    refine hK9 _ _ _ ⟨(), [0, 1, 2], ?_, ?_⟩
    ·
     (try simp (disch := omega) only [w_i64, w_u8, w_u16, w_u32, w_u64]); simp only [Lss, go_sem, hkk, hl, hx, hle]
     refine ⟨?_, ⟨rfl, rfl, rfl⟩, rfl⟩
     simp only [badS, hx, if_pos hc1]
     all_goals first | rfl | omega | trivial
    ·
     first | omega | (constructor <;> omega) | trivial
   ·
    skip
    try simp only [decide_eq_true_eq, decide_eq_false_iff_not, Bool.not_eq_true', Bool.not_eq_false', Bool.and_eq_true, Bool.or_eq_true, Bool.or_eq_false_iff, Bool.and_eq_false_imp] at hc1
    refine awp_seq_k fun K12 hK12 => ?_
    refine awp_regionL (by rfl) ?_
    try simp only [go_sem, hkk, hl, hx, hle]
    refine hK12 _ _ _ (awp_keep [3, 4, 7, 8, 71] ?_)
    try clear hK12 K12
    try simp only [go_sem, hkk, hl, hx, hle]
    refine awp_cond (by rfl) (fun hc2 => ?_) (fun hc2 => ?_)
    ·
     skip
     try simp only [decide_eq_true_eq, decide_eq_false_iff_not, Bool.not_eq_true', Bool.not_eq_false', Bool.and_eq_true, Bool.or_eq_true, Bool.or_eq_false_iff, Bool.and_eq_false_imp] at hc2
     refine awp_regionL (by rfl) ?_
     try simp only [go_sem, hkk, hl, hx, hle]
     refine hK9 _ _ _ ⟨(), [0, 1, 2], ?_, ?_⟩
     ·
      (try simp (disch := omega) only [w_i64, w_u8, w_u16, w_u32, w_u64]); simp only [Lss, go_sem, hkk, hl, hx, hle]
      refine ⟨?_, ⟨rfl, rfl, rfl⟩, rfl⟩
      simp only [badS, hx, if_neg hc1, if_pos hc2]
      all_goals first | rfl | omega | trivial
     ·
      first | omega | (constructor <;> omega) | trivial
    ·
     skip
     try simp only [decide_eq_true_eq, decide_eq_false_iff_not, Bool.not_eq_true', Bool.not_eq_false', Bool.and_eq_true, Bool.or_eq_true, Bool.or_eq_false_iff, Bool.and_eq_false_imp] at hc2
     refine awp_skip ?_
     try simp only [go_sem, hkk, hl, hx, hle]
     refine hK9 _ _ _ ⟨(), [0, 1, 2], ?_, ?_⟩
     ·
      (try simp (disch := omega) only [w_i64, w_u8, w_u16, w_u32, w_u64]); simp only [Lss, go_sem, hkk, hl, hx, hle]
      refine ⟨?_, ⟨rfl, rfl, rfl⟩, rfl⟩
      simp only [badS, hx, if_neg hc1, if_neg hc2]
      all_goals first | rfl | omega | trivial
     ·
      first | omega | (constructor <;> omega) | trivial
  ·
   rintro _u hj
   try simp only [go_sem, hkk, hl, hx, hle]
   refine awp_seq_k fun K13 hK13 => ?_
   refine awp_seq_k fun K14 hK14 => ?_
   refine awp_regionL (by rfl) ?_
   try simp only [go_sem, hkk, hl, hx, hle]
   refine hK14 _ _ _ (awp_keep [3, 4, 76] ?_)
   try clear hK14 K14
   try simp only [go_sem, hkk, hl, hx, hle]
   refine awp_cond (by rfl) (fun hc3 => ?_) (fun hc3 => ?_)
   ·
    skip
    try simp only [decide_eq_true_eq, decide_eq_false_iff_not, Bool.not_eq_true', Bool.not_eq_false', Bool.and_eq_true, Bool.or_eq_true, Bool.or_eq_false_iff, Bool.and_eq_false_imp] at hc3
    have hf : formF g.wide x f l m = ⟨3, 5, x.all⟩ := by unfold formF; rw [if_neg (by rw [h0]; exact Bool.false_ne_true), if_pos hc3]
    refine awp_seq_k fun K15 hK15 => ?_
    refine awp_regionL (by rfl) ?_
    try simp only [go_sem, hkk, hl, hx, hle]
    refine acall_p (attrs_fault_ok 5 x.all) (by first | exact ⟨rfl, trivial⟩ | exact ⟨rfl, rfl, trivial⟩ | exact ⟨rfl, rfl, rfl, trivial⟩ | (simp only [go_sem, hkk, hl, hx, hle]; done) | (simp only [go_sem, hkk, hl, hx, hle] <;> (repeat' apply And.intro) <;> first | rfl | omega | trivial)) ?_
    try simp only [go_sem, hkk, hl, hx, hle]
    refine hK15 _ _ _ (awp_keep [4] ?_)
    try clear hK15 K15
    try simp only [go_sem, hkk, hl, hx, hle]
    refine awp_ret ?_
    try simp only [go_sem, hkk, hl, hx, hle]
    try clear hK15 K15
    try clear hK14 K14
    try clear hK13 K13
    try clear hK12 K12
    try clear hK11 K11
    try clear hK10 K10
    try clear hK9 K9
    try clear hK8 K8
    try clear hK7 K7
    try clear hK6 K6
    try clear hK5 K5
    try clear hK4 K4
    try clear hK3 K3
    try clear hK2 K2
    try clear hK1 K1
    refine ret_x [0, 1, 2] (by simp) (by rfl) ?_ (by rfl) ?_ (by rfl) (by simp) (by simp) (by rfl) ?_ <;> ((try simp (disch := omega) only [w_i64, w_u8, w_u16, w_u32, w_u64]); simp only [go_sem, hkk, hl, hx, hle]) <;> ((rw [hf]; exact ⟨rfl, rfl, rfl⟩))
   ·
    skip
    try simp only [decide_eq_true_eq, decide_eq_false_iff_not, Bool.not_eq_true', Bool.not_eq_false', Bool.and_eq_true, Bool.or_eq_true, Bool.or_eq_false_iff, Bool.and_eq_false_imp] at hc3
    have hf : formF g.wide x f l m = noF := by unfold formF; rw [if_neg (by rw [h0]; exact Bool.false_ne_true), if_neg (by rw [hc3]; exact Bool.false_ne_true)]
    refine awp_skip ?_
    try simp only [go_sem, hkk, hl, hx, hle]
    refine hK13 _ _ _ (awp_keep [4] ?_)
    try clear hK13 K13
    try simp only [go_sem, hkk, hl, hx, hle]
    refine awp_seq_k fun K16 hK16 => ?_
    refine awp_regionL (by rfl) ?_
    try simp only [go_sem, hkk, hl, hx, hle]
    refine hK16 _ _ _ (awp_keep [4] ?_)
    try clear hK16 K16
    try simp only [go_sem, hkk, hl, hx, hle]
    refine awp_ret ?_
    try simp only [go_sem, hkk, hl, hx, hle]
    try clear hK16 K16
    try clear hK15 K15
    try clear hK14 K14
    try clear hK13 K13
    try clear hK12 K12
    try clear hK11 K11
    try clear hK10 K10
    try clear hK9 K9
    try clear hK8 K8
    try clear hK7 K7
    try clear hK6 K6
    try clear hK5 K5
    try clear hK4 K4
    try clear hK3 K3
    try clear hK2 K2
    try clear hK1 K1
    refine ret_x [0, 1, 2] (by simp) (by rfl) ?_ (by rfl) ?_ (by rfl) (by simp) (by simp) (by rfl) ?_ <;> ((try simp (disch := omega) only [w_i64, w_u8, w_u16, w_u32, w_u64]); simp only [go_sem, hkk, hl, hx, hle]) <;> ((rw [hf]; exact ⟨rfl, rfl, rfl⟩))
end

section
attribute [local go_sem] Raw.cells One.cells bytes
set_option maxRecDepth 20000 in
set_option maxHeartbeats 8000000 in
theorem unknown_1_ok (y : Raw) (x : One) : ACX Go.Proofs.Tryd.prog G0 72 [.agg y.cells, .l (.ptr 0 0)] [⟨75, x.cells⟩] [] (.l (.bool (decide (x.kind < y.typ)))) [⟨75, x.cells⟩] [] := by
 refine acalls_intro Go.Proofs.Tryd.func72 rfl (by kernel_rfl) Go.Proofs.Tryd.ntmps72 Go.Proofs.Tryd.results72 (by simp) rfl rfl ?_
 try simp only [go_sem]
 refine awp_seq_k fun K1 hK1 => ?_
 refine awp_regionL (by rfl) ?_
 try simp only [go_sem]
 refine hK1 _ _ _ (awp_keep [1, 2] ?_)
 try clear hK1 K1
 try simp only [go_sem]
 refine awp_seq_k fun K2 hK2 => ?_
 refine awp_regionL (by rfl) ?_
 try simp only [go_sem]
 refine hK2 _ _ _ (awp_keep [3] ?_)
 try clear hK2 K2
 try simp only [go_sem]
 refine awp_ret ?_
 try simp only [go_sem]
 try clear hK2 K2
 try clear hK1 K1
 refine ret_x [] (by simp) (by rfl) ?_ (by rfl) ?_ (by rfl) (by simp) (by simp) (by rfl) ?_ <;> ((try simp (disch := omega) only [w_i64, w_u8, w_u16, w_u32, w_u64]); simp only [go_sem]) <;> (first | rfl | omega | trivial | (simp; done) | simp_all)
end

section
attribute [local go_sem] raws Raw.cells One.cells bytes
set_option maxRecDepth 20000 in
set_option maxHeartbeats 8000000 in
theorem IndexFunc_raw_ok (l : List Raw) (x : One) (h : ∀ y ∈ l, y.typ ≤ x.kind) : ACX Go.Proofs.Tryd.prog G0 71 [.l (raws l), .l (.fn 72 [(0, 0)])] [⟨75, x.cells⟩] [] (.l (.int .i64 (-1))) [⟨75, x.cells⟩] [] := by
 refine acalls_intro Go.Proofs.Tryd.func71 rfl (by kernel_rfl) Go.Proofs.Tryd.ntmps71 Go.Proofs.Tryd.results71 (by simp) rfl rfl ?_
 try simp only [go_sem]
 refine awp_len 0 rfl fun hlen => ?_
 simp only [rwl_length] at hlen
 refine awp_seq_k fun K1 hK1 => ?_
 refine awp_regionL (by rfl) ?_
 try simp only [go_sem]
 refine hK1 _ _ _ (awp_keep [0, 1] ?_)
 try clear hK1 K1
 try simp only [go_sem]
 refine awp_seq_k fun K2 hK2 => ?_
 refine awp_seq_k fun K3 hK3 => ?_
 refine awp_regionL (by rfl) ?_
 try simp only [go_sem]
 refine hK3 _ _ _ (awp_keep [0, 1, 7, 8] ?_)
 try clear hK3 K3
 try simp only [go_sem]
 refine awp_block ?_
 refine awp_loopE (α := (Nat)) (fun (k : (Nat)) => k ≤ l.length) (fun (k : (Nat)) => l.length - k) (fun (k : (Nat)) => [(8, .l (.int .i64 (k : Int)))]) (fun (k : (Nat)) => [⟨75, x.cells⟩]) (fun (k : (Nat)) => []) [0, 1, 7] 0 [] ?_ ?_ ?_
 ·
  simp only [Lss, go_sem]
  (repeat' apply And.intro) <;> first | rfl | omega | trivial | (simp; done)
 ·
  first | trivial | omega | (simp; done) | (constructor <;> omega)
 rintro k hk K4 hK4
 try simp only [go_sem]
 refine awp_seq_k fun K5 hK5 => ?_
 refine awp_regionL (by rfl) ?_
 try simp only [go_sem]
 refine hK5 _ _ _ (awp_keep [0, 1, 7, 8, 9] ?_)
 try clear hK5 K5
 try simp only [go_sem]
 refine awp_seq_k fun K6 hK6 => ?_
 refine awp_cond (by rfl) (fun hc0 => ?_) (fun hc0 => ?_)
 ·
  skip
  try simp only [decide_eq_true_eq, decide_eq_false_iff_not, Bool.not_eq_true', Bool.not_eq_false', Bool.and_eq_true, Bool.or_eq_true, Bool.or_eq_false_iff, Bool.and_eq_false_imp] at hc0
  have hk2 : k < l.length := by omega
  have hy := h l[k] (List.getElem_mem hk2)
  refine awp_skip ?_
  try simp only [go_sem]
  refine hK6 _ _ _ (awp_keep [0, 1, 7, 8] ?_)
  try clear hK6 K6
  try simp only [go_sem]
  refine awp_seq_k fun K7 hK7 => ?_
  refine awp_block ?_
  refine awp_seq_k fun K8 hK8 => ?_
  refine awp_regionL (by rfl) ?_
  try simp only [go_sem]
  refine hK8 _ _ _ (awp_keep [0, 1, 5, 7, 8] ?_)
  try clear hK8 K8
  try simp only [go_sem]
  refine awp_seq_k fun K9 hK9 => ?_
  refine awp_regionL (by rfl) ?_
  try simp only [go_sem]
  refine ix_map k rfl (by omega) ?_
  try simp only [go_sem]
  refine acall_xa (unknown_1_ok l[k] x) [0] [] ?_
  try simp only [go_sem]
  refine hK9 _ _ _ (awp_keep [0, 1, 5, 7, 8, 16] ?_)
  try clear hK9 K9
  try simp only [go_sem]
  refine awp_cond (by rfl) (fun hc1 => ?_) (fun hc1 => ?_)
  ·
   skip
   (simp only [decide_eq_true_eq] at hc1; omega)
  ·
   skip
   try simp only [decide_eq_true_eq, decide_eq_false_iff_not, Bool.not_eq_true', Bool.not_eq_false', Bool.and_eq_true, Bool.or_eq_true, Bool.or_eq_false_iff, Bool.and_eq_false_imp] at hc1
   refine awp_skip ?_
   try simp only [go_sem]
   refine hK7 _ _ _ (awp_keep [0, 1, 7, 8] ?_)
   try clear hK7 K7
   try simp only [go_sem]
   refine awp_regionL (by rfl) ?_
   try simp only [go_sem]
   try simp (disch := omega) only [w_i64, w_u8, w_u16, w_u32, w_u64]
   refine hK4 _ _ _ ⟨k + 1, [], ?_, ?_⟩
   ·
    (try simp (disch := omega) only [w_i64, w_u8, w_u16, w_u32, w_u64]); simp only [Lss, go_sem]
    (repeat' apply And.intro) <;> first | rfl | omega | trivial | (simp; done)
   ·
    first | omega | (constructor <;> omega) | trivial
 ·
  skip
  try simp only [decide_eq_true_eq, decide_eq_false_iff_not, Bool.not_eq_true', Bool.not_eq_false', Bool.and_eq_true, Bool.or_eq_true, Bool.or_eq_false_iff, Bool.and_eq_false_imp] at hc0
  obtain rfl : k = l.length := by omega
  refine awp_exit ?_
  try simp only [go_sem]
  refine hK2 _ _ _ (awp_keep [] ?_)
  try clear hK2 K2
  try simp only [go_sem]
  refine awp_seq_k fun K10 hK10 => ?_
  refine awp_regionL (by rfl) ?_
  try simp only [go_sem]
  refine hK10 _ _ _ (awp_keep [4] ?_)
  try clear hK10 K10
  try simp only [go_sem]
  refine awp_ret ?_
  try simp only [go_sem]
  try clear hK10 K10
  try clear hK9 K9
  try clear hK8 K8
  try clear hK7 K7
  try clear hK6 K6
  try clear hK5 K5
  try clear hK4 K4
  try clear hK3 K3
  try clear hK2 K2
  try clear hK1 K1
  refine ret_x [] (by simp) (by rfl) ?_ (by rfl) ?_ (by rfl) (by simp) (by simp) (by rfl) ?_ <;> ((try simp (disch := omega) only [w_i64, w_u8, w_u16, w_u32, w_u64]); simp only [go_sem]) <;> (first | rfl | omega | trivial | (simp; done) | simp_all)
end

section
attribute [local go_sem] raws Raw.cells bytes
set_option maxRecDepth 20000 in
set_option maxHeartbeats 8000000 in
theorem Insert_end_ok (l : List Raw) (v : Raw) (n : Int) (hn : n = l.length) (hb : l.length ≤ 1000000) : ACX Go.Proofs.Tryd.prog G0 73 [.l (.slice (.row 0) 3 (rwl l)), .l (.int .i64 n), .l (raws [v])] [] [(53, l.length)] (.l (.slice (.row 0) 3 (rwl (l ++ [v])))) [] [(53, l.length + 1)] := by
 refine acalls_intro Go.Proofs.Tryd.func73 rfl (by kernel_rfl) Go.Proofs.Tryd.ntmps73 Go.Proofs.Tryd.results73 (by simp) rfl rfl ?_
 try simp only [go_sem]
 refine awp_seq_k fun K1 hK1 => ?_
 refine awp_regionL (by rfl) ?_
 try simp only [go_sem]
 refine hK1 _ _ _ (awp_keep [0, 1, 2] ?_)
 try clear hK1 K1
 try simp only [go_sem]
 refine awp_seq_k fun K2 hK2 => ?_
 refine awp_regionL (by rfl) ?_
 try simp only [go_sem]
 refine Must.intro (by omega) ?_
 try simp only [go_sem]
 refine hK2 _ _ _ (awp_keep [0, 1, 2] ?_)
 try clear hK2 K2
 try simp only [go_sem]
 refine awp_seq_k fun K3 hK3 => ?_
 refine awp_regionL (by rfl) ?_
 try simp only [go_sem]
 refine hK3 _ _ _ (awp_keep [0, 1, 2, 7] ?_)
 try clear hK3 K3
 try simp only [go_sem]
 refine awp_seq_k fun K4 hK4 => ?_
 refine awp_seq_k fun K5 hK5 => ?_
 refine awp_regionL (by rfl) ?_
 try simp only [go_sem]
 refine hK5 _ _ _ (awp_keep [0, 1, 2, 7, 16] ?_)
 try clear hK5 K5
 try simp only [go_sem]
 refine awp_cond (by rfl) (fun hc0 => ?_) (fun hc0 => ?_)
 ·
  skip
  simp at hc0
 ·
  skip
  try simp only [decide_eq_true_eq, decide_eq_false_iff_not, Bool.not_eq_true', Bool.not_eq_false', Bool.and_eq_true, Bool.or_eq_true, Bool.or_eq_false_iff, Bool.and_eq_false_imp] at hc0
  refine awp_skip ?_
  try simp only [go_sem]
  refine hK4 _ _ _ (awp_keep [0, 1, 2, 7] ?_)
  try clear hK4 K4
  try simp only [go_sem]
  refine awp_seq_k fun K6 hK6 => ?_
  refine awp_regionL (by rfl) ?_
  try simp only [go_sem]
  refine hK6 _ _ _ (awp_keep [0, 1, 2, 7, 8] ?_)
  try clear hK6 K6
  try simp only [go_sem]
  refine awp_seq_k fun K7 hK7 => ?_
  refine awp_seq_k fun K8 hK8 => ?_
  refine awp_regionL (by rfl) ?_
  try simp only [go_sem]
  refine hK8 _ _ _ (awp_keep [0, 1, 2, 7, 8, 22] ?_)
  try clear hK8 K8
  try simp only [go_sem]
  refine awp_cond (by rfl) (fun hc1 => ?_) (fun hc1 => ?_)
  ·
   skip
   try simp only [decide_eq_true_eq, decide_eq_false_iff_not, Bool.not_eq_true', Bool.not_eq_false', Bool.and_eq_true, Bool.or_eq_true, Bool.or_eq_false_iff, Bool.and_eq_false_imp] at hc1
   refine awp_seq_k fun K9 hK9 => ?_
   refine awp_regionL (by rfl) ?_
   try simp only [go_sem]
   refine app_row rfl rfl rfl (by first | rfl | (simp only [go_sem, List.length_append, List.length_map, bl_length]; done) | (simp; done) | (simp; omega)) rfl (.inl rfl) (by decide) tby53 (by (try simp only [go_sem, List.length_append, List.length_map, bl_length]); first | omega | (simp; done) | (simp; omega)) (by (try simp only [go_sem, List.length_append, List.length_map, bl_length]); first | omega | (simp; done) | (simp; omega)) ?_
   try simp only [go_sem]
   refine hK9 _ _ _ (awp_keep [6] ?_)
   try clear hK9 K9
   try simp only [go_sem]
   refine awp_ret ?_
   try simp only [go_sem]
   try clear hK9 K9
   try clear hK8 K8
   try clear hK7 K7
   try clear hK6 K6
   try clear hK5 K5
   try clear hK4 K4
   try clear hK3 K3
   try clear hK2 K2
   try clear hK1 K1
   refine ret_x [0] (by simp) (by rfl) ?_ (by rfl) ?_ (by rfl) (by simp) (by simp) (by rfl) ?_ <;> ((try simp (disch := omega) only [w_i64, w_u8, w_u16, w_u32, w_u64]); simp only [go_sem]) <;> ((simp [rwl]; done))
  ·
   skip
   (simp only [decide_eq_false_iff_not] at hc1; omega)
end

def unk2 (g : Rdg) (x : One) : Bool := decide (64 < (x.value.length : Int)) || decide (8 ≤ (g.a.raws.length : Int))
def unkF (g : Rdg) (x : One) : Flt :=
  if bits .and .i64 x.flags 128 = 0 then ⟨3, 2, x.all⟩ else if bits .and .i64 x.flags 64 = 0 then noF else if unk2 g x = true then ⟨3, 9, x.all⟩ else noF
def unkG (g : Rdg) (x : One) : Rdg :=
  if bits .and .i64 x.flags 128 = 0 ∨ bits .and .i64 x.flags 64 = 0 ∨ unk2 g x = true then g else { g with a := { g.a with raws := g.a.raws ++ [⟨224, x.kind, x.value⟩] } }

section
attribute [local go_sem] Rdg.blk Rdg.cells Rdg.rows One.cells bytes segs Flt.cells Raw.cells
set_option maxRecDepth 20000 in
set_option maxHeartbeats 8000000 in
theorem unknown_ok (g : Rdg) (x : One) (h : ∀ y ∈ g.a.raws, y.typ ≤ x.kind) : ACX Go.Proofs.Tryd.prog G0 53 [.l (.ptr 0 0), .agg x.cells] [g.blk] g.rows (.agg (unkF g x).cells) [(unkG g x).blk] (unkG g x).rows := by
 refine acalls_intro Go.Proofs.Tryd.func53 rfl (by kernel_rfl) Go.Proofs.Tryd.ntmps53 Go.Proofs.Tryd.results53 (by simp) rfl rfl ?_
 try simp only [go_sem]
 refine awp_seq_k fun K1 hK1 => ?_
 refine awp_regionL (by rfl) ?_
 try simp only [go_sem]
 refine hK1 _ _ _ (awp_keep [0, 3, 4] ?_)
 try clear hK1 K1
 try simp only [go_sem]
 refine awp_seq_k fun K2 hK2 => ?_
 refine awp_block ?_
 refine awp_seq_k fun K3 hK3 => ?_
 refine awp_regionL (by rfl) ?_
 try simp only [go_sem]
 refine hK3 _ _ _ (awp_keep [0, 3, 4, 6] ?_)
 try clear hK3 K3
 try simp only [go_sem]
 refine awp_cond (by rfl) (fun hc0 => ?_) (fun hc0 => ?_)
 ·
  skip
  try simp only [decide_eq_true_eq, decide_eq_false_iff_not, Bool.not_eq_true', Bool.not_eq_false', Bool.and_eq_true, Bool.or_eq_true, Bool.or_eq_false_iff, Bool.and_eq_false_imp] at hc0
  have hf : unkF g x = ⟨3, 2, x.all⟩ := by unfold unkF; rw [if_pos hc0]
  have hg : unkG g x = g := by unfold unkG; rw [if_pos (.inl hc0)]
  refine awp_seq_k fun K4 hK4 => ?_
  refine awp_regionL (by rfl) ?_
  try simp only [go_sem]
  refine acall_pa (attrs_fault_ok 2 x.all) ?_
  try simp only [go_sem]
  refine hK4 _ _ _ (awp_keep [4] ?_)
  try clear hK4 K4
  try simp only [go_sem]
  refine awp_ret ?_
  try simp only [go_sem]
  try clear hK4 K4
  try clear hK3 K3
  try clear hK2 K2
  try clear hK1 K1
  refine ret_x [0, 1, 2] (by simp) (by rfl) ?_ (by rfl) ?_ (by rfl) (by simp) (by simp) (by rfl) ?_ <;> ((try simp (disch := omega) only [w_i64, w_u8, w_u16, w_u32, w_u64]); simp only [go_sem]) <;> ((first | rw [hf] | rw [hg]) <;> (repeat' apply And.intro) <;> first | rfl | (simp; done))
 ·
  skip
  try simp only [decide_eq_true_eq, decide_eq_false_iff_not, Bool.not_eq_true', Bool.not_eq_false', Bool.and_eq_true, Bool.or_eq_true, Bool.or_eq_false_iff, Bool.and_eq_false_imp] at hc0
  refine awp_seq_k fun K5 hK5 => ?_
  refine awp_regionL (by rfl) ?_
  try simp only [go_sem]
  refine hK5 _ _ _ (awp_keep [0, 3, 4, 14] ?_)
  try clear hK5 K5
  try simp only [go_sem]
  refine awp_cond (by rfl) (fun hc1 => ?_) (fun hc1 => ?_)
  ·
   skip
   try simp only [decide_eq_true_eq, decide_eq_false_iff_not, Bool.not_eq_true', Bool.not_eq_false', Bool.and_eq_true, Bool.or_eq_true, Bool.or_eq_false_iff, Bool.and_eq_false_imp] at hc1
   have hf : unkF g x = noF := by unfold unkF; rw [if_neg hc0, if_pos hc1]
   have hg : unkG g x = g := by unfold unkG; rw [if_pos (.inr (.inl hc1))]
   refine awp_seq_k fun K6 hK6 => ?_
   refine awp_regionL (by rfl) ?_
   try simp only [go_sem]
   refine hK6 _ _ _ (awp_keep [4] ?_)
   try clear hK6 K6
   try simp only [go_sem]
   refine awp_ret ?_
   try simp only [go_sem]
   try clear hK6 K6
   try clear hK5 K5
   try clear hK4 K4
   try clear hK3 K3
   try clear hK2 K2
   try clear hK1 K1
   refine ret_x [0, 1, 2] (by simp) (by rfl) ?_ (by rfl) ?_ (by rfl) (by simp) (by simp) (by rfl) ?_ <;> ((try simp (disch := omega) only [w_i64, w_u8, w_u16, w_u32, w_u64]); simp only [go_sem]) <;> ((first | rw [hf] | rw [hg]) <;> (repeat' apply And.intro) <;> first | rfl | (simp; done))
  ·
   skip
   try simp only [decide_eq_true_eq, decide_eq_false_iff_not, Bool.not_eq_true', Bool.not_eq_false', Bool.and_eq_true, Bool.or_eq_true, Bool.or_eq_false_iff, Bool.and_eq_false_imp] at hc1
   refine awp_seq_k fun K7 hK7 => ?_
   refine awp_regionL (by rfl) ?_
   try simp only [go_sem]
   repeat (refine Must.au ?_; try simp only [go_sem])
   refine hK7 _ _ _ (awp_keep [0, 3, 4, 20] ?_)
   try clear hK7 K7
   try simp only [go_sem]
   refine awp_cond (by rfl) (fun hc2 => ?_) (fun hc2 => ?_)
   ·
    skip
    try simp only [decide_eq_true_eq, decide_eq_false_iff_not, Bool.not_eq_true', Bool.not_eq_false', Bool.and_eq_true, Bool.or_eq_true, Bool.or_eq_false_iff, Bool.and_eq_false_imp] at hc2
    have h2 : unk2 g x = true := by unfold unk2; simpa using hc2
    have hf : unkF g x = ⟨3, 9, x.all⟩ := by unfold unkF; rw [if_neg hc0, if_neg hc1, if_pos h2]
    have hg : unkG g x = g := by unfold unkG; rw [if_pos (.inr (.inr h2))]
    refine awp_seq_k fun K8 hK8 => ?_
    refine awp_regionL (by rfl) ?_
    try simp only [go_sem]
    refine acall_pa (attrs_fault_ok 9 x.all) ?_
    try simp only [go_sem]
    refine hK8 _ _ _ (awp_keep [4] ?_)
    try clear hK8 K8
    try simp only [go_sem]
    refine awp_ret ?_
    try simp only [go_sem]
    try clear hK8 K8
    try clear hK7 K7
    try clear hK6 K6
    try clear hK5 K5
    try clear hK4 K4
    try clear hK3 K3
    try clear hK2 K2
    try clear hK1 K1
    refine ret_x [0, 1, 2] (by simp) (by rfl) ?_ (by rfl) ?_ (by rfl) (by simp) (by simp) (by rfl) ?_ <;> ((try simp (disch := omega) only [w_i64, w_u8, w_u16, w_u32, w_u64]); simp only [go_sem]) <;> ((first | rw [hf] | rw [hg]) <;> (repeat' apply And.intro) <;> first | rfl | (simp; done))
   ·
    skip
    try simp only [decide_eq_true_eq, decide_eq_false_iff_not, Bool.not_eq_true', Bool.not_eq_false', Bool.and_eq_true, Bool.or_eq_true, Bool.or_eq_false_iff, Bool.and_eq_false_imp] at hc2
    have h2 : unk2 g x = false := by unfold unk2; simpa using hc2
    have hf : unkF g x = noF := by unfold unkF; rw [if_neg hc0, if_neg hc1, if_neg (by rw [h2]; exact Bool.false_ne_true)]
    have hg : unkG g x = { g with a := { g.a with raws := g.a.raws ++ [⟨224, x.kind, x.value⟩] } } := by unfold unkG; rw [if_neg (fun hh => hh.elim hc0 fun hh => hh.elim hc1 fun hh => by rw [h2] at hh; cases hh)]
    refine awp_skip ?_
    try simp only [go_sem]
    refine hK2 _ _ _ (awp_keep [0, 3, 4] ?_)
    try clear hK2 K2
    try simp only [go_sem]
    refine awp_seq_k fun K9 hK9 => ?_
    refine awp_regionL (by rfl) ?_
    try simp only [go_sem]
    refine acall_xa (IndexFunc_raw_ok g.a.raws x h) [1] [] ?_
    try simp only [go_sem]
    refine hK9 _ _ _ (awp_keep [0, 3, 4, 5] ?_)
    try clear hK9 K9
    try simp only [go_sem]
    refine awp_seq_k fun K10 hK10 => ?_
    refine awp_seq_k fun K11 hK11 => ?_
    refine awp_regionL (by rfl) ?_
    try simp only [go_sem]
    refine hK11 _ _ _ (awp_keep [0, 3, 4, 5, 45] ?_)
    try clear hK11 K11
    try simp only [go_sem]
    refine awp_cond (by rfl) (fun hc3 => ?_) (fun hc3 => ?_)
    ·
     skip
     try simp only [decide_eq_true_eq, decide_eq_false_iff_not, Bool.not_eq_true', Bool.not_eq_false', Bool.and_eq_true, Bool.or_eq_true, Bool.or_eq_false_iff, Bool.and_eq_false_imp] at hc3
     refine awp_regionL (by rfl) ?_
     try simp only [go_sem]
     refine hK10 _ _ _ (awp_keep [0, 3, 4, 5] ?_)
     try simp only [go_sem]
     refine awp_seq_k fun K12 hK12 => ?_
     refine awp_drawP (by kernel_rfl) (by rfl) (by kernel_rfl) (fun _ => true) (.early 0 (.early 1 (.early 2 (.early 3 (.early 4 (.early 5 (.early 6 (.early 7 (.early 8 (.early 9 (.early 10 (.early 11 (.last 12 (.late 13 (.early 14 (.early 15 (.early 16 (.late 17 .done)))))))))))))))))) (by kernel_rfl) (fun _ _ _ _ => by simp only [go_sem, not_false_eq_true]) ?_
     try simp only [go_sem]
     refine acall_xa (Insert_end_ok g.a.raws ⟨224, x.kind, x.value⟩ g.a.raws.length rfl (by omega)) [] [2] ?_
     try simp only [go_sem]
     refine hK12 _ _ _ (awp_keep [4] ?_)
     try clear hK12 K12
     try simp only [go_sem]
     refine awp_seq_k fun K13 hK13 => ?_
     refine awp_regionL (by rfl) ?_
     try simp only [go_sem]
     refine hK13 _ _ _ (awp_keep [4] ?_)
     try clear hK13 K13
     try simp only [go_sem]
     refine awp_ret ?_
     try simp only [go_sem]
     try clear hK13 K13
     try clear hK12 K12
     try clear hK11 K11
     try clear hK10 K10
     try clear hK9 K9
     try clear hK8 K8
     try clear hK7 K7
     try clear hK6 K6
     try clear hK5 K5
     try clear hK4 K4
     try clear hK3 K3
     try clear hK2 K2
     try clear hK1 K1
     refine ret_x [0, 1, 2] (by simp) (by rfl) ?_ (by rfl) ?_ (by rfl) (by simp) (by simp) (by rfl) ?_ <;> ((try simp (disch := omega) only [w_i64, w_u8, w_u16, w_u32, w_u64]); simp only [go_sem]) <;> ((first | rw [hf] | rw [hg]) <;> (repeat' apply And.intro) <;> first | rfl | (simp; done))
    ·
     skip
     try simp only [decide_eq_true_eq, decide_eq_false_iff_not, Bool.not_eq_true', Bool.not_eq_false', Bool.and_eq_true, Bool.or_eq_true, Bool.or_eq_false_iff, Bool.and_eq_false_imp] at hc3
     refine awp_skip ?_
     try simp only [go_sem]
     refine hK10 _ _ _ (awp_keep [0, 3, 4, 5] ?_)
     try simp only [go_sem]
     refine awp_seq_k fun K14 hK14 => ?_
     refine awp_drawP (by kernel_rfl) (by rfl) (by kernel_rfl) (fun _ => true) (.early 0 (.early 1 (.early 2 (.early 3 (.early 4 (.early 5 (.early 6 (.early 7 (.early 8 (.early 9 (.early 10 (.early 11 (.last 12 (.late 13 (.early 14 (.early 15 (.early 16 (.late 17 .done)))))))))))))))))) (by kernel_rfl) (fun _ _ _ _ => by simp only [go_sem, not_false_eq_true]) ?_
     try simp only [go_sem]
     refine acall_xa (Insert_end_ok g.a.raws ⟨224, x.kind, x.value⟩ g.a.raws.length rfl (by omega)) [] [2] ?_
     try simp only [go_sem]
     refine hK14 _ _ _ (awp_keep [4] ?_)
     try clear hK14 K14
     try simp only [go_sem]
     refine awp_seq_k fun K15 hK15 => ?_
     refine awp_regionL (by rfl) ?_
     try simp only [go_sem]
     refine hK15 _ _ _ (awp_keep [4] ?_)
     try clear hK15 K15
     try simp only [go_sem]
     refine awp_ret ?_
     try simp only [go_sem]
     try clear hK15 K15
     try clear hK14 K14
     try clear hK13 K13
     try clear hK12 K12
     try clear hK11 K11
     try clear hK10 K10
     try clear hK9 K9
     try clear hK8 K8
     try clear hK7 K7
     try clear hK6 K6
     try clear hK5 K5
     try clear hK4 K4
     try clear hK3 K3
     try clear hK2 K2
     try clear hK1 K1
     refine ret_x [0, 1, 2] (by simp) (by rfl) ?_ (by rfl) ?_ (by rfl) (by simp) (by simp) (by rfl) ?_ <;> ((try simp (disch := omega) only [w_i64, w_u8, w_u16, w_u32, w_u64]); simp only [go_sem]) <;> ((first | rw [hf] | rw [hg]) <;> (repeat' apply And.intro) <;> first | rfl | (simp; done))
end

end Go.Abs
