/-
  ATTRIBUTES AS BYTES, 2: all of them.
-/
import Derived.Test.YtajeoodipplmlaaDoorT16
set_option linter.all false
namespace Go.Abs
open Go Go.Proofs
def rawP (l : List Raw) : List Int := l.flatMap fun r => attrS 224 r.typ r.data
def q1 (a : Attrs) : List Int := attrS 64 1 [IntKind.u8.wrap a.origin]
def q2 (w : Bool) (a : Attrs) : List Int := q1 a ++ attrS 64 2 (pathS w a.path)
def q3 (w : Bool) (a : Attrs) : List Int := q2 w a ++ attrS 64 3 (put32S a.next)
def q4 (w : Bool) (a : Attrs) : List Int := q3 w a ++ opt (decide (0 ≤ a.med)) (attrS 128 4 (put32S (a.med % 4294967296)))
def q5 (w : Bool) (a : Attrs) : List Int := q4 w a ++ opt (decide (0 ≤ a.pref)) (attrS 64 5 (put32S (a.pref % 4294967296)))
def q6 (w : Bool) (a : Attrs) : List Int := q5 w a ++ opt a.atomic (attrS 64 6 [])
def q7 (w : Bool) (a : Attrs) : List Int := q6 w a ++ opt a.hasAggr (attrS 192 7 (numS w a.aggrAS ++ put32S a.aggrAddr))
def q8 (w : Bool) (a : Attrs) : List Int := q7 w a ++ opt (decide (0 < (a.comms.length : Int))) (attrS 192 8 (a.comms.flatMap put32S))
def q9 (w : Bool) (a : Attrs) (k : Nat) : List Int := q8 w a ++ rawP (a.raws.take k)
def q10 (w : Bool) (a : Attrs) : List Int := q9 w a a.raws.length ++ opt (!w && bigS (flat a.path)) (attrS 192 17 (pathS true a.path))
def q11 (w : Bool) (a : Attrs) : List Int := q10 w a ++ opt (!w && decide (65535 < a.aggrAS)) (attrS 192 18 (put32S a.aggrAS ++ put32S a.aggrAddr))
def putA (w : Bool) (a : Attrs) : List Int := if rightS a = true then q11 w a else []
def putE (a : Attrs) : Int := if rightS a = true then 0 else 1
structure Small (a : Attrs) : Prop where
  path : a.path.length ≤ 8
  tot : tot a.path ≤ 64
  comms : a.comms.length ≤ 32
  raws : a.raws.length ≤ 8
  raw : ∀ r ∈ a.raws, r.flags = 224 ∧ r.data.length ≤ 64
theorem small_of {a : Attrs} (h : rightS a = true) : Small a := by
  simp only [rightS, pathRight, rawsS, Bool.and_eq_true, Bool.not_eq_true', Bool.or_eq_false_iff, Bool.not_eq_false', decide_eq_true_eq] at h
  obtain ⟨⟨⟨⟨_, h1⟩, _⟩, _⟩, _, h2, h3, h4⟩ := h
  refine ⟨h1.2, h1.1.2, h2, h4, fun r hr => ?_⟩
  obtain ⟨k, hk, rfl⟩ := List.getElem_of_mem hr
  rw [rawsOk, List.all_eq_true] at h3
  have := (rawAt_iff hk).1 (h3 k (List.mem_range.2 hk))
  exact ⟨this.1.2.2.1, this.1.2.2.2⟩
theorem flat32_len (l : List Int) : (l.flatMap put32S).length = 4 * l.length := by
  induction l with
  | nil => rfl
  | cons n l ih => rw [List.flatMap_cons, List.length_append, ih, put32S_length, List.length_cons]; omega
theorem rawP_len : ∀ (l : List Raw), (∀ r ∈ l, r.data.length ≤ 64) → (rawP l).length ≤ 68 * l.length
  | [], _ => by simp [rawP]
  | r :: l, h => by
    have h1 := rawP_len l fun r hr => h r (List.mem_cons_of_mem _ hr)
    have h2 := h r List.mem_cons_self
    have h3 := attrS_le 224 r.typ r.data
    have e : rawP (r :: l) = attrS 224 r.typ r.data ++ rawP l := rfl
    rw [e, List.length_append, List.length_cons]; omega
theorem rawP_succ (l : List Raw) (k : Nat) (h : k < l.length) : rawP (l.take (k + 1)) = rawP (l.take k) ++ attrS 224 l[k].typ l[k].data := by
  rw [List.take_succ_eq_append_getElem h, rawP, List.flatMap_append]; simp [rawP]
theorem q_len {w : Bool} {a : Attrs} (h : Small a) : (q1 a).length ≤ 10000 ∧ (q2 w a).length ≤ 10000 ∧ (q3 w a).length ≤ 10000 ∧ (q4 w a).length ≤ 10000 ∧ (q5 w a).length ≤ 10000 ∧ (q6 w a).length ≤ 10000 ∧ (q7 w a).length ≤ 10000 ∧ (q8 w a).length ≤ 10000 ∧
    (∀ k, (q9 w a k).length ≤ 10000) ∧ (q10 w a).length ≤ 10000 ∧ (pathS w a.path).length ≤ 1000 ∧ (pathS true a.path).length ≤ 1000 := by
  have hp := pathS_len w a.path
  have hp2 := pathS_len true a.path
  have h1 := h.path
  have h2 := h.tot
  have hA : ∀ f k v, (attrS f k v).length ≤ 4 + v.length := attrS_le
  have e1 : (q1 a).length ≤ 5 := hA _ _ _
  have e2 : (q2 w a).length ≤ 300 := by have := hA 64 2 (pathS w a.path); simp only [q2, List.length_append]; omega
  have e3 : (q3 w a).length ≤ 308 := by have := hA 64 3 (put32S a.next); simp only [q3, List.length_append]; simp at this; omega
  have e4 : (q4 w a).length ≤ 316 := by
    have := hA 128 4 (put32S (a.med % 4294967296)); have o := opt_len (decide (0 ≤ a.med)) (attrS 128 4 (put32S (a.med % 4294967296))); simp only [q4, List.length_append]; simp at this; omega
  have e5 : (q5 w a).length ≤ 324 := by
    have := hA 64 5 (put32S (a.pref % 4294967296)); have o := opt_len (decide (0 ≤ a.pref)) (attrS 64 5 (put32S (a.pref % 4294967296))); simp only [q5, List.length_append]; simp at this; omega
  have e6 : (q6 w a).length ≤ 328 := by
    have := hA 64 6 []; have o := opt_len a.atomic (attrS 64 6 []); simp only [q6, List.length_append]; simp at this; omega
  have e7 : (q7 w a).length ≤ 350 := by
    have hn := numS_len w a.aggrAS
    have := hA 192 7 (numS w a.aggrAS ++ put32S a.aggrAddr); have o := opt_len a.hasAggr (attrS 192 7 (numS w a.aggrAS ++ put32S a.aggrAddr)); simp only [q7, List.length_append]; simp at this; omega
  have e8 : (q8 w a).length ≤ 500 := by
    have hc := h.comms
    have := hA 192 8 (a.comms.flatMap put32S); rw [flat32_len] at this; have o := opt_len (decide (0 < (a.comms.length : Int))) (attrS 192 8 (a.comms.flatMap put32S)); simp only [q8, List.length_append]; omega
  have e9 : ∀ k, (q9 w a k).length ≤ 1100 := fun k => by
    have hr := rawP_len (a.raws.take k) fun r hr => (h.raw r (List.mem_of_mem_take hr)).2
    have hl : (a.raws.take k).length ≤ a.raws.length := by simp; omega
    have := h.raws
    simp only [q9, List.length_append]; omega
  have e10 : (q10 w a).length ≤ 1400 := by
    have h9 := e9 a.raws.length
    have := hA 192 17 (pathS true a.path); have o := opt_len (!w && bigS (flat a.path)) (attrS 192 17 (pathS true a.path)); simp only [q10, List.length_append]; omega
  exact ⟨by omega, by omega, by omega, by omega, by omega, by omega, by omega, by omega, fun k => Nat.le_trans (e9 k) (by decide), by omega, by omega, by omega⟩
theorem q9_succ (w : Bool) (a : Attrs) (k : Nat) (h : k < a.raws.length) : q9 w a (k + 1) = q9 w a k ++ attrS 224 a.raws[k].typ a.raws[k].data := by
  simp only [q9, rawP_succ a.raws k h, List.append_assoc]
theorem q9_zero (w : Bool) (a : Attrs) : q9 w a 0 = q8 w a := by simp [q9, rawP]
theorem u32m (n : Int) : IntKind.u32.wrap (bits .and .i64 n 4294967295) = n % 4294967296 := by rw [and32, IntKind.wrap_u32]; omega

section
attribute [local go_sem] Attrs.cells segs u32s raws bytes Raw.cells bl_length
set_option maxRecDepth 20000 in
set_option maxHeartbeats 8000000 in
theorem attrs_Put_ok (a : Attrs) (w : Bool) (hT : AttrsT a) : ACX Go.Proofs.Tryd.prog G0 20 [.agg a.cells, .l (.bool w)] [] [] (.tup [.l (bytes (putA w a)), .l (.int .i64 (putE a))]) [] [] := by
 refine acalls_intro Go.Proofs.Tryd.func20 rfl (by kernel_rfl) Go.Proofs.Tryd.ntmps20 Go.Proofs.Tryd.results20 (by simp) rfl rfl ?_
 try simp only [go_sem, hm4, hm5]
 have hm4 := u32m a.med
 have hm5 := u32m a.pref
 have hnx := hT.next
 have has := hT.aggrAS
 have had := hT.aggrAddr
 unfold u32r at hnx has had
 refine awp_seq_k fun K1 hK1 => ?_
 refine awp_regionL (by rfl) ?_
 try simp only [go_sem, hm4, hm5]
 refine hK1 _ _ _ (awp_keep [1, 2] ?_)
 try clear hK1 K1
 try simp only [go_sem, hm4, hm5]
 refine awp_seq_k fun K2 hK2 => ?_
 refine awp_seq_k fun K3 hK3 => ?_
 refine awp_regionL (by rfl) ?_
 try simp only [go_sem, hm4, hm5]
 refine acall_p (attrs_Right_ok a) (by first | exact ⟨rfl, trivial⟩ | exact ⟨rfl, rfl, trivial⟩ | exact ⟨rfl, rfl, rfl, trivial⟩ | (simp only [go_sem, hm4, hm5]; done) | (simp only [go_sem, hm4, hm5] <;> (repeat' apply And.intro) <;> first | rfl | omega | trivial)) ?_
 try simp only [go_sem, hm4, hm5]
 refine hK3 _ _ _ (awp_keep [1, 2, 16] ?_)
 try clear hK3 K3
 try simp only [go_sem, hm4, hm5]
 refine awp_cond (by rfl) (fun hc0 => ?_) (fun hc0 => ?_)
 ·
  skip
  try simp only [decide_eq_true_eq, decide_eq_false_iff_not, Bool.not_eq_true', Bool.not_eq_false', Bool.and_eq_true, Bool.or_eq_true, Bool.or_eq_false_iff, Bool.and_eq_false_imp] at hc0
  refine awp_seq_k fun K4 hK4 => ?_
  refine awp_regionL (by rfl) ?_
  try simp only [go_sem, hm4, hm5]
  refine hK4 _ _ _ (awp_keep [4, 5] ?_)
  try clear hK4 K4
  try simp only [go_sem, hm4, hm5]
  refine awp_ret ?_
  try simp only [go_sem, hm4, hm5]
  try clear hK4 K4
  try clear hK3 K3
  try clear hK2 K2
  try clear hK1 K1
  refine ret_p (by simp) (by rfl) ?_ (by rfl)
  (try simp (disch := omega) only [w_i64, w_u8, w_u16, w_u32, w_u64]); simp only [go_sem, hm4, hm5] <;> (simp [putA, putE, hc0, bl])
 ·
  skip
  try simp only [decide_eq_true_eq, decide_eq_false_iff_not, Bool.not_eq_true', Bool.not_eq_false', Bool.and_eq_true, Bool.or_eq_true, Bool.or_eq_false_iff, Bool.and_eq_false_imp] at hc0
  have hR : rightS a = true := by simpa using hc0
  have hSm := small_of hR
  have hc32 := hSm.comms
  refine awp_skip ?_
  try simp only [go_sem, hm4, hm5]
  refine hK2 _ _ _ (awp_keep [1, 2] ?_)
  try clear hK2 K2
  try simp only [go_sem, hm4, hm5]
  refine awp_seq_k fun K5 hK5 => ?_
  refine awp_regionL (by rfl) ?_
  try simp only [go_sem, hm4, hm5]
  refine hK5 _ _ _ (awp_keep [1, 2, 6] ?_)
  try clear hK5 K5
  try simp only [go_sem, hm4, hm5]
  refine awp_seq_k fun K6 hK6 => ?_
  refine awp_regionL (by rfl) ?_
  try simp only [go_sem, hm4, hm5]
  refine hK6 _ _ _ (awp_keep [1, 2, 6, 7] ?_)
  try clear hK6 K6
  try simp only [go_sem, hm4, hm5]
  refine awp_seq_k fun K7 hK7 => ?_
  refine awp_regionL (by rfl) ?_
  try simp only [go_sem, hm4, hm5]
  refine acall_p (attrs_narrow_ok a.aggrAS hT.aggrAS) (by first | exact ⟨rfl, trivial⟩ | exact ⟨rfl, rfl, trivial⟩ | exact ⟨rfl, rfl, rfl, trivial⟩ | (simp only [go_sem, hm4, hm5]; done) | (simp only [go_sem, hm4, hm5] <;> (repeat' apply And.intro) <;> first | rfl | omega | trivial)) ?_
  try simp only [go_sem, hm4, hm5]
  refine acall_p (acx_read (oct16_ok [] (if 65535 < a.aggrAS then 23456 else a.aggrAS) (by simp))) (by first | exact ⟨rfl, trivial⟩ | exact ⟨rfl, rfl, trivial⟩ | exact ⟨rfl, rfl, rfl, trivial⟩ | (simp only [go_sem, hm4, hm5]; done) | (simp only [go_sem, hm4, hm5] <;> (repeat' apply And.intro) <;> first | rfl | omega | trivial)) ?_
  try simp only [go_sem, hm4, hm5]
  refine hK7 _ _ _ (awp_keep [1, 2, 6, 7, 8] ?_)
  try clear hK7 K7
  try simp only [go_sem, hm4, hm5]
  refine awp_joinE (α := Unit) (fun (_u : Unit) => True) (fun (_u : Unit) => [(8, .l (bytes (numS w a.aggrAS)))]) (fun (_u : Unit) => [⟨27, a.cells⟩, ⟨36, [.slice .cap0 1 []]⟩]) (fun (_u : Unit) => []) [1, 2, 6, 7] (fun K8 hK8 => ?_) ?_
  ·
   skip
   refine awp_seq_k fun K9 hK9 => ?_
   refine awp_regionL (by rfl) ?_
   try simp only [go_sem, hm4, hm5]
   refine hK9 _ _ _ (awp_keep [1, 2, 6, 7, 8, 22] ?_)
   try clear hK9 K9
   try simp only [go_sem, hm4, hm5]
   refine awp_cond (by rfl) (fun hc1 => ?_) (fun hc1 => ?_)
   ·
    skip
    try simp only [decide_eq_true_eq, decide_eq_false_iff_not, Bool.not_eq_true', Bool.not_eq_false', Bool.and_eq_true, Bool.or_eq_true, Bool.or_eq_false_iff, Bool.and_eq_false_imp] at hc1
    refine awp_regionL (by rfl) ?_
    try simp only [go_sem, hm4, hm5]
    refine acall_p (acx_read (oct32_ok [] a.aggrAS (by simp) has.1 has.2)) (by first | exact ⟨rfl, trivial⟩ | exact ⟨rfl, rfl, trivial⟩ | exact ⟨rfl, rfl, rfl, trivial⟩ | (simp only [go_sem, hm4, hm5]; done) | (simp only [go_sem, hm4, hm5] <;> (repeat' apply And.intro) <;> first | rfl | omega | trivial)) ?_
    try simp only [go_sem, hm4, hm5]
    refine hK8 _ _ _ ⟨(), [], ?_, ?_⟩
    ·
     (try simp (disch := omega) only [w_i64, w_u8, w_u16, w_u32, w_u64]); simp only [Lss, go_sem, hm4, hm5]
     exact ⟨by rw [numS, if_pos hc1], rfl⟩
     all_goals first | rfl | omega | trivial
    ·
     trivial
   ·
    skip
    try simp only [decide_eq_true_eq, decide_eq_false_iff_not, Bool.not_eq_true', Bool.not_eq_false', Bool.and_eq_true, Bool.or_eq_true, Bool.or_eq_false_iff, Bool.and_eq_false_imp] at hc1
    refine awp_skip ?_
    try simp only [go_sem, hm4, hm5]
    refine hK8 _ _ _ ⟨(), [], ?_, ?_⟩
    ·
     (try simp (disch := omega) only [w_i64, w_u8, w_u16, w_u32, w_u64]); simp only [Lss, go_sem, hm4, hm5]
     exact ⟨by rw [show numS w a.aggrAS = if 65535 < a.aggrAS then put16S 23456 else put16S a.aggrAS by simp [numS, hc1]]; split <;> rfl, rfl⟩
     all_goals first | rfl | omega | trivial
    ·
     trivial
  ·
   rintro _u hj
   try simp only [go_sem, hm4, hm5]
   refine awp_seq_k fun K10 hK10 => ?_
   refine awp_regionL (by rfl) ?_
   try simp only [go_sem, hm4, hm5]
   refine hK10 _ _ _ (awp_keep [1, 2, 6, 7, 8, 9] ?_)
   try clear hK10 K10
   try simp only [go_sem, hm4, hm5]
   refine awp_seq_k fun K11 hK11 => ?_
   refine awp_seq_k fun K12 hK12 => ?_
   refine awp_regionL (by rfl) ?_
   try simp only [go_sem, hm4, hm5]
   refine hK12 _ _ _ (awp_keep [1, 2, 6, 7, 8, 9, 27, 28, 29] ?_)
   try clear hK12 K12
   try simp only [go_sem, hm4, hm5]
   refine awp_block ?_
   refine awp_loopE (α := (Nat)) (fun (k : (Nat)) => k ≤ a.comms.length) (fun (k : (Nat)) => a.comms.length - k) (fun (k : (Nat)) => [(9, .l (bytes ((a.comms.take k).flatMap put32S))), (29, .l (.int .i64 (k : Int)))]) (fun (k : (Nat)) => [⟨27, a.cells⟩, ⟨36, [.slice .cap0 1 []]⟩]) (fun (k : (Nat)) => []) [1, 2, 6, 7, 8, 27, 28] 0 [] ?_ ?_ ?_
   ·
    simp only [Lss, go_sem, hm4, hm5]
    exact ⟨rfl, rfl⟩
    all_goals first | rfl | omega | trivial
   ·
    first | trivial | omega | (simp; done) | (constructor <;> omega)
   rintro k hk K13 hK13
   try simp only [go_sem, hm4, hm5]
   refine awp_seq_k fun K14 hK14 => ?_
   refine awp_regionL (by rfl) ?_
   try simp only [go_sem, hm4, hm5]
   refine hK14 _ _ _ (awp_keep [1, 2, 6, 7, 8, 9, 27, 28, 29, 30] ?_)
   try clear hK14 K14
   try simp only [go_sem, hm4, hm5]
   refine awp_seq_k fun K15 hK15 => ?_
   refine awp_cond (by rfl) (fun hc2 => ?_) (fun hc2 => ?_)
   ·
    skip
    try simp only [decide_eq_true_eq, decide_eq_false_iff_not, Bool.not_eq_true', Bool.not_eq_false', Bool.and_eq_true, Bool.or_eq_true, Bool.or_eq_false_iff, Bool.and_eq_false_imp] at hc2
    have hk2 : k < a.comms.length := by omega
    refine awp_skip ?_
    try simp only [go_sem, hm4, hm5]
    refine hK15 _ _ _ (awp_keep [1, 2, 6, 7, 8, 9, 27, 28, 29] ?_)
    try clear hK15 K15
    try simp only [go_sem, hm4, hm5]
    refine awp_seq_k fun K16 hK16 => ?_
    refine awp_block ?_
    refine awp_seq_k fun K17 hK17 => ?_
    refine awp_regionL (by rfl) ?_
    try simp only [go_sem, hm4, hm5]
    refine ix_map k rfl (by omega) ?_
    try simp only [go_sem, hm4, hm5]
    refine hK17 _ _ _ (awp_keep [1, 2, 6, 7, 8, 9, 11, 27, 28, 29] ?_)
    try clear hK17 K17
    try simp only [go_sem, hm4, hm5]
    refine awp_regionL (by rfl) ?_
    try simp only [go_sem, hm4, hm5]
    refine acall_p (acx_read (oct32_ok ((a.comms.take k).flatMap put32S) a.comms[k] (by rw [flat32_len]; simp; omega) (hT.comms _ (List.getElem_mem hk2)).1 (hT.comms _ (List.getElem_mem hk2)).2)) (by first | exact ⟨rfl, trivial⟩ | exact ⟨rfl, rfl, trivial⟩ | exact ⟨rfl, rfl, rfl, trivial⟩ | (simp only [go_sem, hm4, hm5]; done) | (simp only [go_sem, hm4, hm5] <;> (repeat' apply And.intro) <;> first | rfl | omega | trivial)) ?_
    try simp only [go_sem, hm4, hm5]
    refine hK16 _ _ _ (awp_keep [1, 2, 6, 7, 8, 9, 27, 28, 29] ?_)
    try clear hK16 K16
    try simp only [go_sem, hm4, hm5]
    refine awp_regionL (by rfl) ?_
    try simp only [go_sem, hm4, hm5]
    try simp (disch := omega) only [w_i64, w_u8, w_u16, w_u32, w_u64]
    refine hK13 _ _ _ ⟨k + 1, [], ?_, ?_⟩
    ·
     (try simp (disch := omega) only [w_i64, w_u8, w_u16, w_u32, w_u64]); simp only [Lss, go_sem, hm4, hm5]
     exact ⟨⟨by rw [List.take_succ_eq_append_getElem hk2, List.flatMap_append]; simp, by omega⟩, rfl⟩
     all_goals first | rfl | omega | trivial
    ·
     first | omega | (constructor <;> omega) | trivial
   ·
    skip
    try simp only [decide_eq_true_eq, decide_eq_false_iff_not, Bool.not_eq_true', Bool.not_eq_false', Bool.and_eq_true, Bool.or_eq_true, Bool.or_eq_false_iff, Bool.and_eq_false_imp] at hc2
    obtain rfl : k = a.comms.length := by omega
    simp only [List.take_length]
    refine awp_exit ?_
    try simp only [go_sem, hm4, hm5]
    refine hK11 _ _ _ (awp_keep [1, 2, 6, 7, 8, 9] ?_)
    try clear hK11 K11
    try simp only [go_sem, hm4, hm5]
    refine awp_seq_k fun K18 hK18 => ?_
    refine awp_regionL (by rfl) ?_
    try simp only [go_sem, hm4, hm5]
    refine acall_x (attrs_Put1_new 1 64 (by decide) rfl (.inl rfl) [IntKind.u8.wrap a.origin] (by simp)) [1] [] (by decide) (by decide) (by simp) (by first | (simp only [go_sem, hm4, hm5]; done) | (simp only [go_sem, hm4, hm5] <;> (repeat' apply And.intro) <;> first | rfl | omega | trivial)) (by first | (simp only [go_sem, hm4, hm5]; done) | (simp only [go_sem, hm4, hm5] <;> (repeat' apply And.intro) <;> first | rfl | omega | trivial)) (by first | (simp only [go_sem, hm4, hm5]; done) | (simp only [go_sem, hm4, hm5] <;> (repeat' apply And.intro) <;> first | rfl | omega | trivial)) ?_
    try simp only [go_sem, hm4, hm5]
    try simp (disch := omega) only [w_i64, w_u8, w_u16, w_u32, w_u64]
    refine hK18 _ _ _ (awp_keep [1, 2, 6, 7, 8, 9] ?_)
    try clear hK18 K18
    try simp only [go_sem, hm4, hm5]
    refine awp_seq_k fun K19 hK19 => ?_
    refine awp_regionL (by rfl) ?_
    try simp only [go_sem, hm4, hm5]
    refine acall_p (acx_read (aspath_Put_ok a.path w (Nat.le_trans (small_of hR).path (by decide)) (Int.le_trans (small_of hR).tot (by decide)) (fun s hs => (hT.path s hs).2))) (by first | exact ⟨rfl, trivial⟩ | exact ⟨rfl, rfl, trivial⟩ | exact ⟨rfl, rfl, rfl, trivial⟩ | (simp only [go_sem, hm4, hm5]; done) | (simp only [go_sem, hm4, hm5] <;> (repeat' apply And.intro) <;> first | rfl | omega | trivial)) ?_
    try simp only [go_sem, hm4, hm5]
    refine acall_x (attrs_Put1_row 2 64 (by decide) rfl (.inl rfl) true (q1 a) (pathS w a.path) (Nat.le_trans (q_len (w := w) (small_of hR)).2.2.2.2.2.2.2.2.2.2.1 (by decide)) (Nat.le_trans ((q_len (w := w) (small_of hR)).1) (by decide))) [1] [1] (by decide) (by decide) (by simp) (by first | (simp only [go_sem, hm4, hm5]; done) | (simp only [go_sem, hm4, hm5] <;> (repeat' apply And.intro) <;> first | rfl | omega | trivial)) (by first | (simp only [go_sem, hm4, hm5]; done) | (simp only [go_sem, hm4, hm5] <;> (repeat' apply And.intro) <;> first | rfl | omega | trivial)) (by first | (simp only [go_sem, hm4, hm5]; done) | (simp only [go_sem, hm4, hm5] <;> (repeat' apply And.intro) <;> first | rfl | omega | trivial)) ?_
    try simp only [go_sem, hm4, hm5]
    refine hK19 _ _ _ (awp_keep [1, 2, 6, 7, 8, 9] ?_)
    try clear hK19 K19
    try simp only [go_sem, hm4, hm5]
    refine awp_seq_k fun K20 hK20 => ?_
    refine awp_regionL (by rfl) ?_
    try simp only [go_sem, hm4, hm5]
    refine acall_p (acx_read (oct32_ok [] a.next (by simp) hnx.1 hnx.2)) (by first | exact ⟨rfl, trivial⟩ | exact ⟨rfl, rfl, trivial⟩ | exact ⟨rfl, rfl, rfl, trivial⟩ | (simp only [go_sem, hm4, hm5]; done) | (simp only [go_sem, hm4, hm5] <;> (repeat' apply And.intro) <;> first | rfl | omega | trivial)) ?_
    try simp only [go_sem, hm4, hm5]
    refine acall_x (attrs_Put1_row 3 64 (by decide) rfl (.inl rfl) true (q2 w a) (put32S a.next) (by simp) (Nat.le_trans ((q_len (w := w) (small_of hR)).2.1) (by decide))) [1] [1] (by decide) (by decide) (by simp) (by first | (simp only [go_sem, hm4, hm5]; done) | (simp only [go_sem, hm4, hm5] <;> (repeat' apply And.intro) <;> first | rfl | omega | trivial)) (by first | (simp only [go_sem, hm4, hm5]; done) | (simp only [go_sem, hm4, hm5] <;> (repeat' apply And.intro) <;> first | rfl | omega | trivial)) (by first | (simp only [go_sem, hm4, hm5]; done) | (simp only [go_sem, hm4, hm5] <;> (repeat' apply And.intro) <;> first | rfl | omega | trivial)) ?_
    try simp only [go_sem, hm4, hm5]
    refine hK20 _ _ _ (awp_keep [1, 2, 6, 7, 8, 9] ?_)
    try clear hK20 K20
    try simp only [go_sem, hm4, hm5]
    refine awp_seq_k fun K21 hK21 => ?_
    refine awp_drawP (by kernel_rfl) (by rfl) (by kernel_rfl) (fun _ => true) (.early 0 (.early 1 (.early 2 (.early 3 (.early 4 (.early 5 (.early 6 (.early 7 (.last 8 (.late 9 .done)))))))))) (by kernel_rfl) (fun _ _ _ _ => by simp only [go_sem, not_false_eq_true]) ?_
    try simp only [go_sem, hm4, hm5]
    refine acall_p (acx_read (oct32_ok [] (a.med % 4294967296) (by simp) (by omega) (by omega))) (by first | exact ⟨rfl, trivial⟩ | exact ⟨rfl, rfl, trivial⟩ | exact ⟨rfl, rfl, rfl, trivial⟩ | (simp only [go_sem, hm4, hm5]; done) | (simp only [go_sem, hm4, hm5] <;> (repeat' apply And.intro) <;> first | rfl | omega | trivial)) ?_
    try simp only [go_sem, hm4, hm5]
    refine acall_x (attrs_Put1_row 4 128 (by decide) rfl (.inr (.inl rfl)) (decide (0 ≤ a.med)) (q3 w a) (put32S (a.med % 4294967296)) (by simp) (Nat.le_trans ((q_len (w := w) (small_of hR)).2.2.1) (by decide))) [1] [1] (by decide) (by decide) (by simp) (by first | (simp only [go_sem, hm4, hm5]; done) | (simp only [go_sem, hm4, hm5] <;> (repeat' apply And.intro) <;> first | rfl | omega | trivial)) (by first | (simp only [go_sem, hm4, hm5]; done) | (simp only [go_sem, hm4, hm5] <;> (repeat' apply And.intro) <;> first | rfl | omega | trivial)) (by first | (simp only [go_sem, hm4, hm5]; done) | (simp only [go_sem, hm4, hm5] <;> (repeat' apply And.intro) <;> first | rfl | omega | trivial)) ?_
    try simp only [go_sem, hm4, hm5]
    try simp (disch := omega) only [w_i64, w_u8, w_u16, w_u32, w_u64]
    refine hK21 _ _ _ (awp_keep [1, 2, 6, 7, 8, 9] ?_)
    try clear hK21 K21
    try simp only [go_sem, hm4, hm5]
    refine awp_seq_k fun K22 hK22 => ?_
    refine awp_drawP (by kernel_rfl) (by rfl) (by kernel_rfl) (fun _ => true) (.early 0 (.early 1 (.early 2 (.early 3 (.early 4 (.early 5 (.early 6 (.early 7 (.last 8 (.late 9 .done)))))))))) (by kernel_rfl) (fun _ _ _ _ => by simp only [go_sem, not_false_eq_true]) ?_
    try simp only [go_sem, hm4, hm5]
    refine acall_p (acx_read (oct32_ok [] (a.pref % 4294967296) (by simp) (by omega) (by omega))) (by first | exact ⟨rfl, trivial⟩ | exact ⟨rfl, rfl, trivial⟩ | exact ⟨rfl, rfl, rfl, trivial⟩ | (simp only [go_sem, hm4, hm5]; done) | (simp only [go_sem, hm4, hm5] <;> (repeat' apply And.intro) <;> first | rfl | omega | trivial)) ?_
    try simp only [go_sem, hm4, hm5]
    refine acall_x (attrs_Put1_row 5 64 (by decide) rfl (.inl rfl) (decide (0 ≤ a.pref)) (q4 w a) (put32S (a.pref % 4294967296)) (by simp) (Nat.le_trans ((q_len (w := w) (small_of hR)).2.2.2.1) (by decide))) [1] [1] (by decide) (by decide) (by simp) (by first | (simp only [go_sem, hm4, hm5]; done) | (simp only [go_sem, hm4, hm5] <;> (repeat' apply And.intro) <;> first | rfl | omega | trivial)) (by first | (simp only [go_sem, hm4, hm5]; done) | (simp only [go_sem, hm4, hm5] <;> (repeat' apply And.intro) <;> first | rfl | omega | trivial)) (by first | (simp only [go_sem, hm4, hm5]; done) | (simp only [go_sem, hm4, hm5] <;> (repeat' apply And.intro) <;> first | rfl | omega | trivial)) ?_
    try simp only [go_sem, hm4, hm5]
    try simp (disch := omega) only [w_i64, w_u8, w_u16, w_u32, w_u64]
    refine hK22 _ _ _ (awp_keep [1, 2, 6, 7, 8, 9] ?_)
    try clear hK22 K22
    try simp only [go_sem, hm4, hm5]
    refine awp_seq_k fun K23 hK23 => ?_
    refine awp_regionL (by rfl) ?_
    try simp only [go_sem, hm4, hm5]
    refine acall_x (attrs_Put1_row 6 64 (by decide) rfl (.inl rfl) a.atomic (q5 w a) (([] : List Int)) (by simp) (Nat.le_trans ((q_len (w := w) (small_of hR)).2.2.2.2.1) (by decide))) [1] [1] (by decide) (by decide) (by simp) (by first | (simp only [go_sem, hm4, hm5]; done) | (simp only [go_sem, hm4, hm5] <;> (repeat' apply And.intro) <;> first | rfl | omega | trivial)) (by first | (simp only [go_sem, hm4, hm5]; done) | (simp only [go_sem, hm4, hm5] <;> (repeat' apply And.intro) <;> first | rfl | omega | trivial)) (by first | (simp only [go_sem, hm4, hm5]; done) | (simp only [go_sem, hm4, hm5] <;> (repeat' apply And.intro) <;> first | rfl | omega | trivial)) ?_
    try simp only [go_sem, hm4, hm5]
    refine hK23 _ _ _ (awp_keep [1, 2, 6, 7, 8, 9] ?_)
    try clear hK23 K23
    try simp only [go_sem, hm4, hm5]
    refine awp_seq_k fun K24 hK24 => ?_
    refine awp_drawP (by kernel_rfl) (by rfl) (by kernel_rfl) (fun _ => true) (.early 0 (.early 1 (.early 2 (.early 3 (.early 4 (.early 5 (.last 6 (.late 7 .done)))))))) (by kernel_rfl) (fun _ _ _ _ => by simp only [go_sem, not_false_eq_true]) ?_
    try simp only [go_sem, hm4, hm5]
    refine acall_p (acx_read (oct32_ok (numS w a.aggrAS) a.aggrAddr (Nat.le_trans (numS_len w a.aggrAS) (by decide)) had.1 had.2)) (by first | exact ⟨rfl, trivial⟩ | exact ⟨rfl, rfl, trivial⟩ | exact ⟨rfl, rfl, rfl, trivial⟩ | (simp only [go_sem, hm4, hm5]; done) | (simp only [go_sem, hm4, hm5] <;> (repeat' apply And.intro) <;> first | rfl | omega | trivial)) ?_
    try simp only [go_sem, hm4, hm5]
    refine acall_x (attrs_Put1_row 7 192 (by decide) rfl (.inr (.inr (.inl rfl))) a.hasAggr (q6 w a) (numS w a.aggrAS ++ put32S a.aggrAddr) (by have := numS_len w a.aggrAS; simp; omega) (Nat.le_trans ((q_len (w := w) (small_of hR)).2.2.2.2.2.1) (by decide))) [1] [1] (by decide) (by decide) (by simp) (by first | (simp only [go_sem, hm4, hm5]; done) | (simp only [go_sem, hm4, hm5] <;> (repeat' apply And.intro) <;> first | rfl | omega | trivial)) (by first | (simp only [go_sem, hm4, hm5]; done) | (simp only [go_sem, hm4, hm5] <;> (repeat' apply And.intro) <;> first | rfl | omega | trivial)) (by first | (simp only [go_sem, hm4, hm5]; done) | (simp only [go_sem, hm4, hm5] <;> (repeat' apply And.intro) <;> first | rfl | omega | trivial)) ?_
    try simp only [go_sem, hm4, hm5]
    refine hK24 _ _ _ (awp_keep [1, 2, 6, 7, 9] ?_)
    try clear hK24 K24
    try simp only [go_sem, hm4, hm5]
    refine awp_seq_k fun K25 hK25 => ?_
    refine awp_regionL (by rfl) ?_
    try simp only [go_sem, hm4, hm5]
    refine acall_x (attrs_Put1_row 8 192 (by decide) rfl (.inr (.inr (.inl rfl))) (decide (0 < (a.comms.length : Int))) (q7 w a) (a.comms.flatMap put32S) (by rw [flat32_len]; omega) (Nat.le_trans ((q_len (w := w) (small_of hR)).2.2.2.2.2.2.1) (by decide))) [1] [1] (by decide) (by decide) (by simp) (by first | (simp only [go_sem, hm4, hm5]; done) | (simp only [go_sem, hm4, hm5] <;> (repeat' apply And.intro) <;> first | rfl | omega | trivial)) (by first | (simp only [go_sem, hm4, hm5]; done) | (simp only [go_sem, hm4, hm5] <;> (repeat' apply And.intro) <;> first | rfl | omega | trivial)) (by first | (simp only [go_sem, hm4, hm5]; done) | (simp only [go_sem, hm4, hm5] <;> (repeat' apply And.intro) <;> first | rfl | omega | trivial)) ?_
    try simp only [go_sem, hm4, hm5]
    refine hK25 _ _ _ (awp_keep [1, 2, 6, 7] ?_)
    try clear hK25 K25
    try simp only [go_sem, hm4, hm5]
    refine awp_seq_k fun K26 hK26 => ?_
    refine awp_seq_k fun K27 hK27 => ?_
    refine awp_regionL (by rfl) ?_
    try simp only [go_sem, hm4, hm5]
    refine hK27 _ _ _ (awp_keep [1, 2, 6, 7, 94, 95, 96] ?_)
    try clear hK27 K27
    try simp only [go_sem, hm4, hm5]
    refine awp_block ?_
    refine awp_loopE (α := (Nat)) (fun (k : (Nat)) => k ≤ a.raws.length) (fun (k : (Nat)) => a.raws.length - k) (fun (k : (Nat)) => [(96, .l (.int .i64 (k : Int)))]) (fun (k : (Nat)) => [⟨27, a.cells⟩, ⟨36, [.slice (.row 0) 1 (bl (q9 w a k))]⟩]) (fun (k : (Nat)) => [(5, (q9 w a k).length)]) [1, 2, 6, 7, 94, 95] 0 [1] ?_ ?_ ?_
    ·
     simp only [Lss, go_sem, hm4, hm5]
     exact ⟨by rw [q9_zero]; rfl, rfl, by rw [q9_zero]; rfl⟩
     all_goals first | rfl | omega | trivial
    ·
     first | trivial | omega | (simp; done) | (constructor <;> omega)
    rintro k hk K28 hK28
    try simp only [go_sem, hm4, hm5]
    refine awp_seq_k fun K29 hK29 => ?_
    refine awp_regionL (by rfl) ?_
    try simp only [go_sem, hm4, hm5]
    refine hK29 _ _ _ (awp_keep [1, 2, 6, 7, 94, 95, 96, 97] ?_)
    try clear hK29 K29
    try simp only [go_sem, hm4, hm5]
    refine awp_seq_k fun K30 hK30 => ?_
    refine awp_cond (by rfl) (fun hc3 => ?_) (fun hc3 => ?_)
    ·
     skip
     try simp only [decide_eq_true_eq, decide_eq_false_iff_not, Bool.not_eq_true', Bool.not_eq_false', Bool.and_eq_true, Bool.or_eq_true, Bool.or_eq_false_iff, Bool.and_eq_false_imp] at hc3
     have hk3 : k < a.raws.length := by omega
     have hrl := hSm.raws
     have hrw := hSm.raw _ (List.getElem_mem hk3)
     have hq9 := (q_len (w := w) hSm).2.2.2.2.2.2.2.2.1 k
     have hal := attrS_le a.raws[k].flags a.raws[k].typ a.raws[k].data
     refine awp_skip ?_
     try simp only [go_sem, hm4, hm5]
     refine hK30 _ _ _ (awp_keep [1, 2, 6, 7, 94, 95, 96] ?_)
     try clear hK30 K30
     try simp only [go_sem, hm4, hm5]
     refine awp_seq_k fun K31 hK31 => ?_
     refine awp_block ?_
     refine awp_seq_k fun K32 hK32 => ?_
     refine awp_regionL (by rfl) ?_
     try simp only [go_sem, hm4, hm5]
     refine ix_map k rfl (by omega) ?_
     try simp only [go_sem, hm4, hm5]
     refine hK32 _ _ _ (awp_keep [1, 2, 6, 7, 13, 94, 95, 96] ?_)
     try clear hK32 K32
     try simp only [go_sem, hm4, hm5]
     refine awp_drawP (by kernel_rfl) (by rfl) (by kernel_rfl) (fun _ => true) (.early 0 (.early 1 (.early 2 (.early 3 (.early 4 (.early 5 (.early 6 (.last 7 (.late 8 (.late 9 .done)))))))))) (by kernel_rfl) (fun _ _ _ _ => by simp only [go_sem, not_false_eq_true]) ?_
     try simp only [go_sem, hm4, hm5]
     refine acall_x (attrs_whole_ok a.raws[k].flags a.raws[k].typ a.raws[k].data (by rw [hrw.1]; exact .inr (.inr (.inr rfl))) (Nat.le_trans hrw.2 (by decide))) [] [] (by decide) (by decide) (by simp) (by first | (simp only [go_sem, hm4, hm5]; done) | (simp only [go_sem, hm4, hm5] <;> (repeat' apply And.intro) <;> first | rfl | omega | trivial)) (by first | (simp only [go_sem, hm4, hm5]; done) | (simp only [go_sem, hm4, hm5] <;> (repeat' apply And.intro) <;> first | rfl | omega | trivial)) (by first | (simp only [go_sem, hm4, hm5]; done) | (simp only [go_sem, hm4, hm5] <;> (repeat' apply And.intro) <;> first | rfl | omega | trivial)) ?_
     try simp only [go_sem, hm4, hm5]
     refine app_row rfl rfl rfl (by first | rfl | (simp only [go_sem, List.length_append, List.length_map, bl_length, hm4, hm5]; done) | (simp; done) | (simp; omega)) rfl (.inl rfl) (by decide) tby5 (by (try simp only [go_sem, List.length_append, List.length_map, bl_length, hm4, hm5]); first | omega | (simp; done) | (simp; omega)) (by (try simp only [go_sem, List.length_append, List.length_map, bl_length, hm4, hm5]); first | omega | (simp; done) | (simp; omega)) ?_
     try simp only [go_sem, hm4, hm5]
     refine hK31 _ _ _ (awp_keep [1, 2, 6, 7, 94, 95, 96] ?_)
     try clear hK31 K31
     try simp only [go_sem, hm4, hm5]
     refine awp_regionL (by rfl) ?_
     try simp only [go_sem, hm4, hm5]
     try simp (disch := omega) only [w_i64, w_u8, w_u16, w_u32, w_u64]
     have hsu := q9_succ w a k hk3
     rw [← hrw.1] at hsu
     refine hK28 _ _ _ ⟨k + 1, [0], ?_, ?_⟩
     ·
      (try simp (disch := omega) only [w_i64, w_u8, w_u16, w_u32, w_u64]); simp only [Lss, go_sem, hm4, hm5, hsu, bl_append, List.length_append]
      exact ⟨by omega, rfl⟩
      all_goals first | rfl | omega | trivial
     ·
      first | omega | (constructor <;> omega) | trivial
    ·
     skip
     try simp only [decide_eq_true_eq, decide_eq_false_iff_not, Bool.not_eq_true', Bool.not_eq_false', Bool.and_eq_true, Bool.or_eq_true, Bool.or_eq_false_iff, Bool.and_eq_false_imp] at hc3
     obtain rfl : k = a.raws.length := by omega
     refine awp_exit ?_
     try simp only [go_sem, hm4, hm5]
     refine hK26 _ _ _ (awp_keep [1, 2, 6, 7] ?_)
     try clear hK26 K26
     try simp only [go_sem, hm4, hm5]
     refine awp_seq_k fun K33 hK33 => ?_
     refine awp_drawP (by kernel_rfl) (by rfl) (by kernel_rfl) (fun _ => true) (.early 0 (.early 1 (.early 2 (.early 3 (.early 4 (.early 5 (.early 8 (.early 9 (.last 6 (.early 7 (.late 10 (.late 11 .done)))))))))))) (by kernel_rfl) (fun _ _ _ _ => by simp only [go_sem, not_false_eq_true]) ?_
     try simp only [go_sem, hm4, hm5]
     refine gcall_p ?_ (by rfl) (by simp only [go_sem, hm4, hm5]; rfl) (fun hg => ⟨attrs_wideNeeded_ok a.path (Int.le_trans hSm.tot (by decide)), by simp only [hg, go_sem, hm4, hm5]⟩) ?_
     ·
      rfl
     try simp only [go_sem, hm4, hm5]
     repeat (refine Must.au ?_; try simp only [go_sem])
     refine acall_p (acx_read (aspath_Put_ok a.path true (Nat.le_trans (small_of hR).path (by decide)) (Int.le_trans (small_of hR).tot (by decide)) (fun s hs => (hT.path s hs).2))) (by first | exact ⟨rfl, trivial⟩ | exact ⟨rfl, rfl, trivial⟩ | exact ⟨rfl, rfl, rfl, trivial⟩ | (simp only [go_sem, hm4, hm5]; done) | (simp only [go_sem, hm4, hm5] <;> (repeat' apply And.intro) <;> first | rfl | omega | trivial)) ?_
     try simp only [go_sem, hm4, hm5]
     repeat (refine Must.au ?_; try simp only [go_sem])
     refine acall_x (attrs_Put1_row 17 192 (by decide) rfl (.inr (.inr (.inl rfl))) (!w && bigS (flat a.path)) (q9 w a a.raws.length) (pathS true a.path) (Nat.le_trans (q_len (w := w) (small_of hR)).2.2.2.2.2.2.2.2.2.2.2 (by decide)) (Nat.le_trans ((q_len (w := w) (small_of hR)).2.2.2.2.2.2.2.2.1 a.raws.length) (by decide))) [1] [0] (by decide) (by decide) (by simp) (by first | (simp only [go_sem, hm4, hm5]; done) | (simp only [go_sem, hm4, hm5] <;> (repeat' apply And.intro) <;> first | rfl | omega | trivial)) (by first | (simp only [go_sem, hm4, hm5]; done) | (simp only [go_sem, hm4, hm5] <;> (repeat' apply And.intro) <;> first | rfl | omega | trivial)) (by first | (simp only [go_sem, hm4, hm5]; done) | (simp only [go_sem, hm4, hm5] <;> (repeat' apply And.intro) <;> first | rfl | omega | trivial)) ?_
     try simp only [go_sem, hm4, hm5]
     repeat (refine Must.au ?_; try simp only [go_sem])
     repeat (refine Must.au ?_; try simp only [go_sem])
     refine hK33 _ _ _ (awp_keep [1, 2, 6, 7] ?_)
     try clear hK33 K33
     try simp only [go_sem, hm4, hm5]
     refine awp_seq_k fun K34 hK34 => ?_
     refine awp_drawP (by kernel_rfl) (by rfl) (by kernel_rfl) (fun _ => true) (.early 0 (.early 1 (.early 2 (.early 3 (.early 4 (.early 5 (.early 6 (.early 7 (.early 8 (.early 9 (.early 11 (.early 12 (.last 10 (.last 13 (.late 14 .done))))))))))))))) (by kernel_rfl) (fun _ _ _ _ => by simp only [go_sem, not_false_eq_true]) ?_
     try simp only [go_sem, hm4, hm5]
     refine acall_p (acx_read (oct32_ok [] a.aggrAS (by simp) has.1 has.2)) (by first | exact ⟨rfl, trivial⟩ | exact ⟨rfl, rfl, trivial⟩ | exact ⟨rfl, rfl, rfl, trivial⟩ | (simp only [go_sem, hm4, hm5]; done) | (simp only [go_sem, hm4, hm5] <;> (repeat' apply And.intro) <;> first | rfl | omega | trivial)) ?_
     try simp only [go_sem, hm4, hm5]
     repeat (refine Must.au ?_; try simp only [go_sem])
     refine acall_p (acx_read (oct32_ok (put32S a.aggrAS) a.aggrAddr (by simp) had.1 had.2)) (by first | exact ⟨rfl, trivial⟩ | exact ⟨rfl, rfl, trivial⟩ | exact ⟨rfl, rfl, rfl, trivial⟩ | (simp only [go_sem, hm4, hm5]; done) | (simp only [go_sem, hm4, hm5] <;> (repeat' apply And.intro) <;> first | rfl | omega | trivial)) ?_
     try simp only [go_sem, hm4, hm5]
     repeat (refine Must.au ?_; try simp only [go_sem])
     refine acall_x (attrs_Put1_row 18 192 (by decide) rfl (.inr (.inr (.inl rfl))) (!w && decide (65535 < a.aggrAS)) (q10 w a) (put32S a.aggrAS ++ put32S a.aggrAddr) (by simp) (Nat.le_trans ((q_len (w := w) (small_of hR)).2.2.2.2.2.2.2.2.2.1) (by decide))) [1] [0] (by decide) (by decide) (by simp) (by first | (simp only [go_sem, hm4, hm5]; done) | (simp only [go_sem, hm4, hm5] <;> (repeat' apply And.intro) <;> first | rfl | omega | trivial)) (by first | (simp only [go_sem, hm4, hm5]; done) | (simp only [go_sem, hm4, hm5] <;> (repeat' apply And.intro) <;> first | rfl | omega | trivial)) (by first | (simp only [go_sem, hm4, hm5]; done) | (simp only [go_sem, hm4, hm5] <;> (repeat' apply And.intro) <;> first | rfl | omega | trivial)) ?_
     try simp only [go_sem, hm4, hm5]
     repeat (refine Must.au ?_; try simp only [go_sem])
     repeat (refine Must.au ?_; try simp only [go_sem])
     refine hK34 _ _ _ (awp_keep [6] ?_)
     try clear hK34 K34
     try simp only [go_sem, hm4, hm5]
     refine awp_seq_k fun K35 hK35 => ?_
     refine awp_regionL (by rfl) ?_
     try simp only [go_sem, hm4, hm5]
     refine hK35 _ _ _ (awp_keep [4, 5] ?_)
     try clear hK35 K35
     try simp only [go_sem, hm4, hm5]
     refine awp_ret ?_
     try simp only [go_sem, hm4, hm5]
     try clear hK35 K35
     try clear hK34 K34
     try clear hK33 K33
     try clear hK32 K32
     try clear hK31 K31
     try clear hK30 K30
     try clear hK29 K29
     try clear hK28 K28
     try clear hK27 K27
     try clear hK26 K26
     try clear hK25 K25
     try clear hK24 K24
     try clear hK23 K23
     try clear hK22 K22
     try clear hK21 K21
     try clear hK20 K20
     try clear hK19 K19
     try clear hK18 K18
     try clear hK17 K17
     try clear hK16 K16
     try clear hK15 K15
     try clear hK14 K14
     try clear hK13 K13
     try clear hK12 K12
     try clear hK11 K11
     try clear hK10 K10
     try clear hK9 K9
     try clear hK8 K8
     try clear hK7 K7
     try clear hK6 K6
     try clear hK5 K5
     try clear hK4 K4
     try clear hK3 K3
     try clear hK2 K2
     try clear hK1 K1
     refine ret_p (by simp) (by rfl) ?_ (by rfl)
     (try simp (disch := omega) only [w_i64, w_u8, w_u16, w_u32, w_u64]); simp only [go_sem, hm4, hm5] <;> (simp [putA, putE, hR]; rfl)
end

end Go.Abs
