/-
  ATTRIBUTES AS BYTES, 3: the document's answer.
-/
import Derived.Test.YtajeoodipplmlaaDoorT17
import Derived.Test.YtajeoodipplmlaaDoorT10
set_option linter.all false
namespace Go.Abs
open Go Go.Proofs
theorem opt_app_t {c : Bool} {l l' : List Int} (h : c = true) : l ++ opt c l' = l ++ l' := by subst h; rfl
theorem opt_app_f {c : Bool} {l l' : List Int} (h : c = false) : l ++ opt c l' = l := by subst h; simp [opt]
theorem bigS_take_succ (l : List Int) (k : Nat) (h : k < l.length) : bigS (l.take (k + 1)) = (bigS (l.take k) || decide (65535 < l[k])) := by
  rw [List.take_succ_eq_append_getElem h, bigS, List.any_append]; simp [bigS]

set_option maxRecDepth 20000 in
set_option maxHeartbeats 8000000 in
theorem ref04_Put_ok (a : Attrs) (w : Bool) (hT : AttrsT a) : ACX Go.Proofs.Tryd.prog G0 21 [.agg a.cells, .l (.bool w)] [] [] (.tup [.l (bytes (putA w a)), .l (.int .i64 (putE a))]) [] [] := by
  refine acalls_intro Go.Proofs.Tryd.func21 rfl (by kernel_rfl) Go.Proofs.Tryd.ntmps21 Go.Proofs.Tryd.results21 (by simp) rfl rfl ?_
  try simp only [go_sem, Attrs.cells, segs, u32s, raws, bytes, Raw.cells, bl_length, hm4, hm5]
  have hm4 : IntKind.u32.wrap a.med = a.med % 4294967296 := IntKind.wrap_u32 _
  have hm5 : IntKind.u32.wrap a.pref = a.pref % 4294967296 := IntKind.wrap_u32 _
  have hnx := hT.next
  have has := hT.aggrAS
  have had := hT.aggrAddr
  unfold u32r at hnx has had
  refine awp_seq_k fun K1 hK1 => ?_
  refine awp_regionL (by rfl) ?_
  try simp only [go_sem, Attrs.cells, segs, u32s, raws, bytes, Raw.cells, bl_length, hm4, hm5]
  refine hK1 _ _ _ (awp_keep [1, 2] ?_)
  try clear hK1 K1
  try simp only [go_sem, Attrs.cells, segs, u32s, raws, bytes, Raw.cells, bl_length, hm4, hm5]
  refine awp_seq_k fun K2 hK2 => ?_
  refine awp_seq_k fun K3 hK3 => ?_
  refine awp_regionL (by rfl) ?_
  try simp only [go_sem, Attrs.cells, segs, u32s, raws, bytes, Raw.cells, bl_length, hm4, hm5]
  refine acall_p (ref04_Right_ok a) (by first | exact ⟨rfl, trivial⟩ | exact ⟨rfl, rfl, trivial⟩ | exact ⟨rfl, rfl, rfl, trivial⟩ | (simp only [go_sem, Attrs.cells, segs, u32s, raws, bytes, Raw.cells, bl_length, hm4, hm5]; done) | (simp only [go_sem, Attrs.cells, segs, u32s, raws, bytes, Raw.cells, bl_length, hm4, hm5] <;> (repeat' apply And.intro) <;> first | rfl | omega | trivial)) ?_
  try simp only [go_sem, Attrs.cells, segs, u32s, raws, bytes, Raw.cells, bl_length, hm4, hm5]
  refine hK3 _ _ _ (awp_keep [1, 2, 16] ?_)
  try clear hK3 K3
  try simp only [go_sem, Attrs.cells, segs, u32s, raws, bytes, Raw.cells, bl_length, hm4, hm5]
  refine awp_cond (by rfl) (fun hc0 => ?_) (fun hc0 => ?_)
  · skip
    try simp only [decide_eq_true_eq, decide_eq_false_iff_not, Bool.not_eq_true', Bool.not_eq_false', Bool.and_eq_true, Bool.or_eq_true, Bool.or_eq_false_iff, Bool.and_eq_false_imp] at hc0
    refine awp_seq_k fun K4 hK4 => ?_
    refine awp_regionL (by rfl) ?_
    try simp only [go_sem, Attrs.cells, segs, u32s, raws, bytes, Raw.cells, bl_length, hm4, hm5]
    refine hK4 _ _ _ (awp_keep [4, 5] ?_)
    try clear hK4 K4
    try simp only [go_sem, Attrs.cells, segs, u32s, raws, bytes, Raw.cells, bl_length, hm4, hm5]
    refine awp_ret ?_
    try simp only [go_sem, Attrs.cells, segs, u32s, raws, bytes, Raw.cells, bl_length, hm4, hm5]
    try clear hK4 K4
    try clear hK3 K3
    try clear hK2 K2
    try clear hK1 K1
    refine ret_p (by simp) (by rfl) ?_ (by rfl)
    (try simp (disch := omega) only [w_i64, w_u8, w_u16, w_u32, w_u64]); simp only [go_sem, Attrs.cells, segs, u32s, raws, bytes, Raw.cells, bl_length, hm4, hm5] <;> (simp [putA, putE, hc0, bl])
  · skip
    try simp only [decide_eq_true_eq, decide_eq_false_iff_not, Bool.not_eq_true', Bool.not_eq_false', Bool.and_eq_true, Bool.or_eq_true, Bool.or_eq_false_iff, Bool.and_eq_false_imp] at hc0
    have hR : rightS a = true := by simpa using hc0
    have hSm := small_of hR
    have hc32 := hSm.comms
    refine awp_skip ?_
    try simp only [go_sem, Attrs.cells, segs, u32s, raws, bytes, Raw.cells, bl_length, hm4, hm5]
    refine hK2 _ _ _ (awp_keep [1, 2] ?_)
    try clear hK2 K2
    try simp only [go_sem, Attrs.cells, segs, u32s, raws, bytes, Raw.cells, bl_length, hm4, hm5]
    refine awp_seq_k fun K5 hK5 => ?_
    refine awp_regionL (by rfl) ?_
    try simp only [go_sem, Attrs.cells, segs, u32s, raws, bytes, Raw.cells, bl_length, hm4, hm5]
    refine acall_p (acx_read (ref04_attr_ok ([]) 64 1 ([IntKind.u8.wrap a.origin]) (.inl rfl) (Nat.le_trans (by simp : ([] : List Int).length ≤ 0) (by decide)) (by simp))) (by first | exact ⟨rfl, trivial⟩ | exact ⟨rfl, rfl, trivial⟩ | exact ⟨rfl, rfl, rfl, trivial⟩ | (simp only [go_sem, Attrs.cells, segs, u32s, raws, bytes, Raw.cells, bl_length, hm4, hm5]; done) | (simp only [go_sem, Attrs.cells, segs, u32s, raws, bytes, Raw.cells, bl_length, hm4, hm5] <;> (repeat' apply And.intro) <;> first | rfl | omega | trivial)) ?_
    try simp only [go_sem, Attrs.cells, segs, u32s, raws, bytes, Raw.cells, bl_length, hm4, hm5]
    try simp (disch := omega) only [w_i64, w_u8, w_u16, w_u32, w_u64]
    refine hK5 _ _ _ (awp_keep [1, 2, 6] ?_)
    try clear hK5 K5
    try simp only [go_sem, Attrs.cells, segs, u32s, raws, bytes, Raw.cells, bl_length, hm4, hm5]
    refine awp_seq_k fun K6 hK6 => ?_
    refine awp_regionL (by rfl) ?_
    try simp only [go_sem, Attrs.cells, segs, u32s, raws, bytes, Raw.cells, bl_length, hm4, hm5]
    refine acall_p (acx_read (ref03_Put_ok a.path w (Nat.le_trans (small_of hR).path (by decide)) (Int.le_trans (small_of hR).tot (by decide)) (fun s hs => (hT.path s hs).2))) (by first | exact ⟨rfl, trivial⟩ | exact ⟨rfl, rfl, trivial⟩ | exact ⟨rfl, rfl, rfl, trivial⟩ | (simp only [go_sem, Attrs.cells, segs, u32s, raws, bytes, Raw.cells, bl_length, hm4, hm5]; done) | (simp only [go_sem, Attrs.cells, segs, u32s, raws, bytes, Raw.cells, bl_length, hm4, hm5] <;> (repeat' apply And.intro) <;> first | rfl | omega | trivial)) ?_
    try simp only [go_sem, Attrs.cells, segs, u32s, raws, bytes, Raw.cells, bl_length, hm4, hm5]
    refine acall_p (acx_read (ref04_attr_ok (q1 a) 64 2 (pathS w a.path) (.inl rfl) (Nat.le_trans ((q_len (w := w) (small_of hR)).1) (by decide)) (Nat.le_trans (q_len (w := w) (small_of hR)).2.2.2.2.2.2.2.2.2.2.1 (by decide)))) (by first | exact ⟨rfl, trivial⟩ | exact ⟨rfl, rfl, trivial⟩ | exact ⟨rfl, rfl, rfl, trivial⟩ | (simp only [go_sem, Attrs.cells, segs, u32s, raws, bytes, Raw.cells, bl_length, hm4, hm5]; done) | (simp only [go_sem, Attrs.cells, segs, u32s, raws, bytes, Raw.cells, bl_length, hm4, hm5] <;> (repeat' apply And.intro) <;> first | rfl | omega | trivial)) ?_
    try simp only [go_sem, Attrs.cells, segs, u32s, raws, bytes, Raw.cells, bl_length, hm4, hm5]
    refine hK6 _ _ _ (awp_keep [1, 2, 6] ?_)
    try clear hK6 K6
    try simp only [go_sem, Attrs.cells, segs, u32s, raws, bytes, Raw.cells, bl_length, hm4, hm5]
    refine awp_seq_k fun K7 hK7 => ?_
    refine awp_regionL (by rfl) ?_
    try simp only [go_sem, Attrs.cells, segs, u32s, raws, bytes, Raw.cells, bl_length, hm4, hm5]
    refine acall_p (acx_read (ref01_Put32_ok [] a.next (by simp) hnx.1 hnx.2)) (by first | exact ⟨rfl, trivial⟩ | exact ⟨rfl, rfl, trivial⟩ | exact ⟨rfl, rfl, rfl, trivial⟩ | (simp only [go_sem, Attrs.cells, segs, u32s, raws, bytes, Raw.cells, bl_length, hm4, hm5]; done) | (simp only [go_sem, Attrs.cells, segs, u32s, raws, bytes, Raw.cells, bl_length, hm4, hm5] <;> (repeat' apply And.intro) <;> first | rfl | omega | trivial)) ?_
    try simp only [go_sem, Attrs.cells, segs, u32s, raws, bytes, Raw.cells, bl_length, hm4, hm5]
    refine acall_p (acx_read (ref04_attr_ok (q2 w a) 64 3 (put32S a.next) (.inl rfl) (Nat.le_trans ((q_len (w := w) (small_of hR)).2.1) (by decide)) (by simp))) (by first | exact ⟨rfl, trivial⟩ | exact ⟨rfl, rfl, trivial⟩ | exact ⟨rfl, rfl, rfl, trivial⟩ | (simp only [go_sem, Attrs.cells, segs, u32s, raws, bytes, Raw.cells, bl_length, hm4, hm5]; done) | (simp only [go_sem, Attrs.cells, segs, u32s, raws, bytes, Raw.cells, bl_length, hm4, hm5] <;> (repeat' apply And.intro) <;> first | rfl | omega | trivial)) ?_
    try simp only [go_sem, Attrs.cells, segs, u32s, raws, bytes, Raw.cells, bl_length, hm4, hm5]
    refine hK7 _ _ _ (awp_keep [1, 2, 6] ?_)
    try clear hK7 K7
    try simp only [go_sem, Attrs.cells, segs, u32s, raws, bytes, Raw.cells, bl_length, hm4, hm5]
    refine awp_joinE (α := Unit) (fun (_u : Unit) => True) (fun (_u : Unit) => [(6, .l (bytes (q4 w a)))]) (fun (_u : Unit) => [⟨27, a.cells⟩]) (fun (_u : Unit) => []) [1, 2] (fun K8 hK8 => ?_) ?_
    · skip
      refine awp_seq_k fun K9 hK9 => ?_
      refine awp_regionL (by rfl) ?_
      try simp only [go_sem, Attrs.cells, segs, u32s, raws, bytes, Raw.cells, bl_length, hm4, hm5]
      refine hK9 _ _ _ (awp_keep [1, 2, 6, 35] ?_)
      try clear hK9 K9
      try simp only [go_sem, Attrs.cells, segs, u32s, raws, bytes, Raw.cells, bl_length, hm4, hm5]
      refine awp_cond (by rfl) (fun hc1 => ?_) (fun hc1 => ?_)
      · skip
        try simp only [decide_eq_true_eq, decide_eq_false_iff_not, Bool.not_eq_true', Bool.not_eq_false', Bool.and_eq_true, Bool.or_eq_true, Bool.or_eq_false_iff, Bool.and_eq_false_imp] at hc1
        refine awp_regionL (by rfl) ?_
        try simp only [go_sem, Attrs.cells, segs, u32s, raws, bytes, Raw.cells, bl_length, hm4, hm5]
        refine acall_p (acx_read (ref01_Put32_ok [] (a.med % 4294967296) (by simp) (by omega) (by omega))) (by first | exact ⟨rfl, trivial⟩ | exact ⟨rfl, rfl, trivial⟩ | exact ⟨rfl, rfl, rfl, trivial⟩ | (simp only [go_sem, Attrs.cells, segs, u32s, raws, bytes, Raw.cells, bl_length, hm4, hm5]; done) | (simp only [go_sem, Attrs.cells, segs, u32s, raws, bytes, Raw.cells, bl_length, hm4, hm5] <;> (repeat' apply And.intro) <;> first | rfl | omega | trivial)) ?_
        try simp only [go_sem, Attrs.cells, segs, u32s, raws, bytes, Raw.cells, bl_length, hm4, hm5]
        refine acall_p (acx_read (ref04_attr_ok (q3 w a) 128 4 (put32S (a.med % 4294967296)) (.inr (.inl rfl)) (Nat.le_trans ((q_len (w := w) (small_of hR)).2.2.1) (by decide)) (by simp))) (by first | exact ⟨rfl, trivial⟩ | exact ⟨rfl, rfl, trivial⟩ | exact ⟨rfl, rfl, rfl, trivial⟩ | (simp only [go_sem, Attrs.cells, segs, u32s, raws, bytes, Raw.cells, bl_length, hm4, hm5]; done) | (simp only [go_sem, Attrs.cells, segs, u32s, raws, bytes, Raw.cells, bl_length, hm4, hm5] <;> (repeat' apply And.intro) <;> first | rfl | omega | trivial)) ?_
        try simp only [go_sem, Attrs.cells, segs, u32s, raws, bytes, Raw.cells, bl_length, hm4, hm5]
        try simp (disch := omega) only [w_i64, w_u8, w_u16, w_u32, w_u64]
        refine hK8 _ _ _ ⟨(), [], ?_, ?_⟩
        · (try simp (disch := omega) only [w_i64, w_u8, w_u16, w_u32, w_u64]); simp only [Lss, go_sem, Attrs.cells, segs, u32s, raws, bytes, Raw.cells, bl_length, hm4, hm5]
          first | exact ⟨by rw [q4, opt_app_t (decide_eq_true hc1)] <;> rfl, rfl⟩ | trace_state
          all_goals first | rfl | omega | trivial
        · trivial
      · skip
        try simp only [decide_eq_true_eq, decide_eq_false_iff_not, Bool.not_eq_true', Bool.not_eq_false', Bool.and_eq_true, Bool.or_eq_true, Bool.or_eq_false_iff, Bool.and_eq_false_imp] at hc1
        refine awp_skip ?_
        try simp only [go_sem, Attrs.cells, segs, u32s, raws, bytes, Raw.cells, bl_length, hm4, hm5]
        refine hK8 _ _ _ ⟨(), [], ?_, ?_⟩
        · (try simp (disch := omega) only [w_i64, w_u8, w_u16, w_u32, w_u64]); simp only [Lss, go_sem, Attrs.cells, segs, u32s, raws, bytes, Raw.cells, bl_length, hm4, hm5]
          first | exact ⟨by rw [q4, opt_app_f (decide_eq_false hc1)] <;> rfl, rfl⟩ | trace_state
          all_goals first | rfl | omega | trivial
        · trivial
    · rintro _u hj
      try simp only [go_sem, Attrs.cells, segs, u32s, raws, bytes, Raw.cells, bl_length, hm4, hm5]
      refine awp_joinE (α := Unit) (fun (_u : Unit) => True) (fun (_u : Unit) => [(6, .l (bytes (q5 w a)))]) (fun (_u : Unit) => [⟨27, a.cells⟩]) (fun (_u : Unit) => []) [1, 2] (fun K10 hK10 => ?_) ?_
      · skip
        refine awp_seq_k fun K11 hK11 => ?_
        refine awp_regionL (by rfl) ?_
        try simp only [go_sem, Attrs.cells, segs, u32s, raws, bytes, Raw.cells, bl_length, hm4, hm5]
        refine hK11 _ _ _ (awp_keep [1, 2, 6, 44] ?_)
        try clear hK11 K11
        try simp only [go_sem, Attrs.cells, segs, u32s, raws, bytes, Raw.cells, bl_length, hm4, hm5]
        refine awp_cond (by rfl) (fun hc2 => ?_) (fun hc2 => ?_)
        · skip
          try simp only [decide_eq_true_eq, decide_eq_false_iff_not, Bool.not_eq_true', Bool.not_eq_false', Bool.and_eq_true, Bool.or_eq_true, Bool.or_eq_false_iff, Bool.and_eq_false_imp] at hc2
          refine awp_regionL (by rfl) ?_
          try simp only [go_sem, Attrs.cells, segs, u32s, raws, bytes, Raw.cells, bl_length, hm4, hm5]
          refine acall_p (acx_read (ref01_Put32_ok [] (a.pref % 4294967296) (by simp) (by omega) (by omega))) (by first | exact ⟨rfl, trivial⟩ | exact ⟨rfl, rfl, trivial⟩ | exact ⟨rfl, rfl, rfl, trivial⟩ | (simp only [go_sem, Attrs.cells, segs, u32s, raws, bytes, Raw.cells, bl_length, hm4, hm5]; done) | (simp only [go_sem, Attrs.cells, segs, u32s, raws, bytes, Raw.cells, bl_length, hm4, hm5] <;> (repeat' apply And.intro) <;> first | rfl | omega | trivial)) ?_
          try simp only [go_sem, Attrs.cells, segs, u32s, raws, bytes, Raw.cells, bl_length, hm4, hm5]
          refine acall_p (acx_read (ref04_attr_ok (q4 w a) 64 5 (put32S (a.pref % 4294967296)) (.inl rfl) (Nat.le_trans ((q_len (w := w) (small_of hR)).2.2.2.1) (by decide)) (by simp))) (by first | exact ⟨rfl, trivial⟩ | exact ⟨rfl, rfl, trivial⟩ | exact ⟨rfl, rfl, rfl, trivial⟩ | (simp only [go_sem, Attrs.cells, segs, u32s, raws, bytes, Raw.cells, bl_length, hm4, hm5]; done) | (simp only [go_sem, Attrs.cells, segs, u32s, raws, bytes, Raw.cells, bl_length, hm4, hm5] <;> (repeat' apply And.intro) <;> first | rfl | omega | trivial)) ?_
          try simp only [go_sem, Attrs.cells, segs, u32s, raws, bytes, Raw.cells, bl_length, hm4, hm5]
          try simp (disch := omega) only [w_i64, w_u8, w_u16, w_u32, w_u64]
          refine hK10 _ _ _ ⟨(), [], ?_, ?_⟩
          · (try simp (disch := omega) only [w_i64, w_u8, w_u16, w_u32, w_u64]); simp only [Lss, go_sem, Attrs.cells, segs, u32s, raws, bytes, Raw.cells, bl_length, hm4, hm5]
            first | exact ⟨by rw [q5, opt_app_t (decide_eq_true hc2)] <;> rfl, rfl⟩ | trace_state
            all_goals first | rfl | omega | trivial
          · trivial
        · skip
          try simp only [decide_eq_true_eq, decide_eq_false_iff_not, Bool.not_eq_true', Bool.not_eq_false', Bool.and_eq_true, Bool.or_eq_true, Bool.or_eq_false_iff, Bool.and_eq_false_imp] at hc2
          refine awp_skip ?_
          try simp only [go_sem, Attrs.cells, segs, u32s, raws, bytes, Raw.cells, bl_length, hm4, hm5]
          refine hK10 _ _ _ ⟨(), [], ?_, ?_⟩
          · (try simp (disch := omega) only [w_i64, w_u8, w_u16, w_u32, w_u64]); simp only [Lss, go_sem, Attrs.cells, segs, u32s, raws, bytes, Raw.cells, bl_length, hm4, hm5]
            first | exact ⟨by rw [q5, opt_app_f (decide_eq_false hc2)] <;> rfl, rfl⟩ | trace_state
            all_goals first | rfl | omega | trivial
          · trivial
      · rintro _u hj
        try simp only [go_sem, Attrs.cells, segs, u32s, raws, bytes, Raw.cells, bl_length, hm4, hm5]
        refine awp_joinE (α := Unit) (fun (_u : Unit) => True) (fun (_u : Unit) => [(6, .l (bytes (q6 w a)))]) (fun (_u : Unit) => [⟨27, a.cells⟩]) (fun (_u : Unit) => []) [1, 2] (fun K12 hK12 => ?_) ?_
        · skip
          refine awp_seq_k fun K13 hK13 => ?_
          refine awp_regionL (by rfl) ?_
          try simp only [go_sem, Attrs.cells, segs, u32s, raws, bytes, Raw.cells, bl_length, hm4, hm5]
          refine hK13 _ _ _ (awp_keep [1, 2, 6, 52] ?_)
          try clear hK13 K13
          try simp only [go_sem, Attrs.cells, segs, u32s, raws, bytes, Raw.cells, bl_length, hm4, hm5]
          refine awp_cond (by rfl) (fun hc3 => ?_) (fun hc3 => ?_)
          · skip
            try simp only [decide_eq_true_eq, decide_eq_false_iff_not, Bool.not_eq_true', Bool.not_eq_false', Bool.and_eq_true, Bool.or_eq_true, Bool.or_eq_false_iff, Bool.and_eq_false_imp] at hc3
            refine awp_regionL (by rfl) ?_
            try simp only [go_sem, Attrs.cells, segs, u32s, raws, bytes, Raw.cells, bl_length, hm4, hm5]
            refine acall_p (acx_read (ref04_attr_ok (q5 w a) 64 6 (([] : List Int)) (.inl rfl) (Nat.le_trans ((q_len (w := w) (small_of hR)).2.2.2.2.1) (by decide)) (by simp))) (by first | exact ⟨rfl, trivial⟩ | exact ⟨rfl, rfl, trivial⟩ | exact ⟨rfl, rfl, rfl, trivial⟩ | (simp only [go_sem, Attrs.cells, segs, u32s, raws, bytes, Raw.cells, bl_length, hm4, hm5]; done) | (simp only [go_sem, Attrs.cells, segs, u32s, raws, bytes, Raw.cells, bl_length, hm4, hm5] <;> (repeat' apply And.intro) <;> first | rfl | omega | trivial)) ?_
            try simp only [go_sem, Attrs.cells, segs, u32s, raws, bytes, Raw.cells, bl_length, hm4, hm5]
            refine hK12 _ _ _ ⟨(), [], ?_, ?_⟩
            · (try simp (disch := omega) only [w_i64, w_u8, w_u16, w_u32, w_u64]); simp only [Lss, go_sem, Attrs.cells, segs, u32s, raws, bytes, Raw.cells, bl_length, hm4, hm5]
              first | exact ⟨by rw [q6, opt_app_t hc3] <;> rfl, rfl⟩ | trace_state
              all_goals first | rfl | omega | trivial
            · trivial
          · skip
            try simp only [decide_eq_true_eq, decide_eq_false_iff_not, Bool.not_eq_true', Bool.not_eq_false', Bool.and_eq_true, Bool.or_eq_true, Bool.or_eq_false_iff, Bool.and_eq_false_imp] at hc3
            refine awp_skip ?_
            try simp only [go_sem, Attrs.cells, segs, u32s, raws, bytes, Raw.cells, bl_length, hm4, hm5]
            refine hK12 _ _ _ ⟨(), [], ?_, ?_⟩
            · (try simp (disch := omega) only [w_i64, w_u8, w_u16, w_u32, w_u64]); simp only [Lss, go_sem, Attrs.cells, segs, u32s, raws, bytes, Raw.cells, bl_length, hm4, hm5]
              first | exact ⟨by rw [q6, opt_app_f hc3] <;> rfl, rfl⟩ | trace_state
              all_goals first | rfl | omega | trivial
            · trivial
        · rintro _u hj
          try simp only [go_sem, Attrs.cells, segs, u32s, raws, bytes, Raw.cells, bl_length, hm4, hm5]
          refine awp_joinE (α := Unit) (fun (_u : Unit) => True) (fun (_u : Unit) => [(6, .l (bytes (q7 w a)))]) (fun (_u : Unit) => [⟨27, a.cells⟩]) (fun (_u : Unit) => []) [1, 2] (fun K14 hK14 => ?_) ?_
          · skip
            refine awp_seq_k fun K15 hK15 => ?_
            refine awp_regionL (by rfl) ?_
            try simp only [go_sem, Attrs.cells, segs, u32s, raws, bytes, Raw.cells, bl_length, hm4, hm5]
            refine hK15 _ _ _ (awp_keep [1, 2, 6, 56] ?_)
            try clear hK15 K15
            try simp only [go_sem, Attrs.cells, segs, u32s, raws, bytes, Raw.cells, bl_length, hm4, hm5]
            refine awp_cond (by rfl) (fun hc4 => ?_) (fun hc4 => ?_)
            · skip
              try simp only [decide_eq_true_eq, decide_eq_false_iff_not, Bool.not_eq_true', Bool.not_eq_false', Bool.and_eq_true, Bool.or_eq_true, Bool.or_eq_false_iff, Bool.and_eq_false_imp] at hc4
              refine awp_seq_k fun K16 hK16 => ?_
              refine awp_regionL (by rfl) ?_
              try simp only [go_sem, Attrs.cells, segs, u32s, raws, bytes, Raw.cells, bl_length, hm4, hm5]
              refine hK16 _ _ _ (awp_keep [1, 2, 6, 7] ?_)
              try clear hK16 K16
              try simp only [go_sem, Attrs.cells, segs, u32s, raws, bytes, Raw.cells, bl_length, hm4, hm5]
              refine awp_joinE (α := Unit) (fun (_u : Unit) => True) (fun (_u : Unit) => [(7, .l (bytes (numS w a.aggrAS)))]) (fun (_u : Unit) => [⟨27, a.cells⟩]) (fun (_u : Unit) => []) [1, 2, 6] (fun K17 hK17 => ?_) ?_
              · skip
                refine awp_seq_k fun K18 hK18 => ?_
                refine awp_regionL (by rfl) ?_
                try simp only [go_sem, Attrs.cells, segs, u32s, raws, bytes, Raw.cells, bl_length, hm4, hm5]
                refine hK18 _ _ _ (awp_keep [1, 2, 6, 7, 57] ?_)
                try clear hK18 K18
                try simp only [go_sem, Attrs.cells, segs, u32s, raws, bytes, Raw.cells, bl_length, hm4, hm5]
                refine awp_cond (by rfl) (fun hc5 => ?_) (fun hc5 => ?_)
                · skip
                  try simp only [decide_eq_true_eq, decide_eq_false_iff_not, Bool.not_eq_true', Bool.not_eq_false', Bool.and_eq_true, Bool.or_eq_true, Bool.or_eq_false_iff, Bool.and_eq_false_imp] at hc5
                  refine awp_regionL (by rfl) ?_
                  try simp only [go_sem, Attrs.cells, segs, u32s, raws, bytes, Raw.cells, bl_length, hm4, hm5]
                  refine acall_p (acx_read (ref01_Put32_ok [] a.aggrAS (by simp) has.1 has.2)) (by first | exact ⟨rfl, trivial⟩ | exact ⟨rfl, rfl, trivial⟩ | exact ⟨rfl, rfl, rfl, trivial⟩ | (simp only [go_sem, Attrs.cells, segs, u32s, raws, bytes, Raw.cells, bl_length, hm4, hm5]; done) | (simp only [go_sem, Attrs.cells, segs, u32s, raws, bytes, Raw.cells, bl_length, hm4, hm5] <;> (repeat' apply And.intro) <;> first | rfl | omega | trivial)) ?_
                  try simp only [go_sem, Attrs.cells, segs, u32s, raws, bytes, Raw.cells, bl_length, hm4, hm5]
                  refine hK17 _ _ _ ⟨(), [], ?_, ?_⟩
                  · (try simp (disch := omega) only [w_i64, w_u8, w_u16, w_u32, w_u64]); simp only [Lss, go_sem, Attrs.cells, segs, u32s, raws, bytes, Raw.cells, bl_length, hm4, hm5]
                    exact ⟨by rw [numS, if_pos hc5] <;> rfl, rfl⟩
                    all_goals first | rfl | omega | trivial
                  · trivial
                · skip
                  try simp only [decide_eq_true_eq, decide_eq_false_iff_not, Bool.not_eq_true', Bool.not_eq_false', Bool.and_eq_true, Bool.or_eq_true, Bool.or_eq_false_iff, Bool.and_eq_false_imp] at hc5
                  refine awp_seq_k fun K19 hK19 => ?_
                  refine awp_regionL (by rfl) ?_
                  try simp only [go_sem, Attrs.cells, segs, u32s, raws, bytes, Raw.cells, bl_length, hm4, hm5]
                  refine hK19 _ _ _ (awp_keep [1, 2, 6, 7, 64] ?_)
                  try clear hK19 K19
                  try simp only [go_sem, Attrs.cells, segs, u32s, raws, bytes, Raw.cells, bl_length, hm4, hm5]
                  refine awp_cond (by rfl) (fun hc6 => ?_) (fun hc6 => ?_)
                  · skip
                    try simp only [decide_eq_true_eq, decide_eq_false_iff_not, Bool.not_eq_true', Bool.not_eq_false', Bool.and_eq_true, Bool.or_eq_true, Bool.or_eq_false_iff, Bool.and_eq_false_imp] at hc6
                    refine awp_regionL (by rfl) ?_
                    try simp only [go_sem, Attrs.cells, segs, u32s, raws, bytes, Raw.cells, bl_length, hm4, hm5]
                    refine acall_p (acx_read (ref01_Put16_ok [] 23456 (by simp))) (by first | exact ⟨rfl, trivial⟩ | exact ⟨rfl, rfl, trivial⟩ | exact ⟨rfl, rfl, rfl, trivial⟩ | (simp only [go_sem, Attrs.cells, segs, u32s, raws, bytes, Raw.cells, bl_length, hm4, hm5]; done) | (simp only [go_sem, Attrs.cells, segs, u32s, raws, bytes, Raw.cells, bl_length, hm4, hm5] <;> (repeat' apply And.intro) <;> first | rfl | omega | trivial)) ?_
                    try simp only [go_sem, Attrs.cells, segs, u32s, raws, bytes, Raw.cells, bl_length, hm4, hm5]
                    refine hK17 _ _ _ ⟨(), [], ?_, ?_⟩
                    · (try simp (disch := omega) only [w_i64, w_u8, w_u16, w_u32, w_u64]); simp only [Lss, go_sem, Attrs.cells, segs, u32s, raws, bytes, Raw.cells, bl_length, hm4, hm5]
                      exact ⟨by rw [numS, if_neg (by simp [hc5]), if_pos hc6] <;> rfl, rfl⟩
                      all_goals first | rfl | omega | trivial
                    · trivial
                  · skip
                    try simp only [decide_eq_true_eq, decide_eq_false_iff_not, Bool.not_eq_true', Bool.not_eq_false', Bool.and_eq_true, Bool.or_eq_true, Bool.or_eq_false_iff, Bool.and_eq_false_imp] at hc6
                    refine awp_regionL (by rfl) ?_
                    try simp only [go_sem, Attrs.cells, segs, u32s, raws, bytes, Raw.cells, bl_length, hm4, hm5]
                    refine acall_p (acx_read (ref01_Put16_ok [] (IntKind.i64.wrap a.aggrAS) (by simp))) (by first | exact ⟨rfl, trivial⟩ | exact ⟨rfl, rfl, trivial⟩ | exact ⟨rfl, rfl, rfl, trivial⟩ | (simp only [go_sem, Attrs.cells, segs, u32s, raws, bytes, Raw.cells, bl_length, hm4, hm5]; done) | (simp only [go_sem, Attrs.cells, segs, u32s, raws, bytes, Raw.cells, bl_length, hm4, hm5] <;> (repeat' apply And.intro) <;> first | rfl | omega | trivial)) ?_
                    try simp only [go_sem, Attrs.cells, segs, u32s, raws, bytes, Raw.cells, bl_length, hm4, hm5]
                    try simp (disch := omega) only [w_i64, w_u8, w_u16, w_u32, w_u64]
                    refine hK17 _ _ _ ⟨(), [], ?_, ?_⟩
                    · (try simp (disch := omega) only [w_i64, w_u8, w_u16, w_u32, w_u64]); simp only [Lss, go_sem, Attrs.cells, segs, u32s, raws, bytes, Raw.cells, bl_length, hm4, hm5]
                      exact ⟨by rw [numS, if_neg (by simp [hc5]), if_neg hc6] <;> rfl, rfl⟩
                      all_goals first | rfl | omega | trivial
                    · trivial
              · rintro _u hj
                try simp only [go_sem, Attrs.cells, segs, u32s, raws, bytes, Raw.cells, bl_length, hm4, hm5]
                refine awp_regionL (by rfl) ?_
                try simp only [go_sem, Attrs.cells, segs, u32s, raws, bytes, Raw.cells, bl_length, hm4, hm5]
                refine acall_p (acx_read (ref01_Put32_ok (numS w a.aggrAS) a.aggrAddr (Nat.le_trans (numS_len w a.aggrAS) (by decide)) had.1 had.2)) (by first | exact ⟨rfl, trivial⟩ | exact ⟨rfl, rfl, trivial⟩ | exact ⟨rfl, rfl, rfl, trivial⟩ | (simp only [go_sem, Attrs.cells, segs, u32s, raws, bytes, Raw.cells, bl_length, hm4, hm5]; done) | (simp only [go_sem, Attrs.cells, segs, u32s, raws, bytes, Raw.cells, bl_length, hm4, hm5] <;> (repeat' apply And.intro) <;> first | rfl | omega | trivial)) ?_
                try simp only [go_sem, Attrs.cells, segs, u32s, raws, bytes, Raw.cells, bl_length, hm4, hm5]
                refine acall_p (acx_read (ref04_attr_ok (q6 w a) 192 7 (numS w a.aggrAS ++ put32S a.aggrAddr) (.inr (.inr (.inl rfl))) (Nat.le_trans ((q_len (w := w) (small_of hR)).2.2.2.2.2.1) (by decide)) (by have := numS_len w a.aggrAS; simp; omega))) (by first | exact ⟨rfl, trivial⟩ | exact ⟨rfl, rfl, trivial⟩ | exact ⟨rfl, rfl, rfl, trivial⟩ | (simp only [go_sem, Attrs.cells, segs, u32s, raws, bytes, Raw.cells, bl_length, hm4, hm5]; done) | (simp only [go_sem, Attrs.cells, segs, u32s, raws, bytes, Raw.cells, bl_length, hm4, hm5] <;> (repeat' apply And.intro) <;> first | rfl | omega | trivial)) ?_
                try simp only [go_sem, Attrs.cells, segs, u32s, raws, bytes, Raw.cells, bl_length, hm4, hm5]
                refine hK14 _ _ _ ⟨(), [], ?_, ?_⟩
                · (try simp (disch := omega) only [w_i64, w_u8, w_u16, w_u32, w_u64]); simp only [Lss, go_sem, Attrs.cells, segs, u32s, raws, bytes, Raw.cells, bl_length, hm4, hm5]
                  first | exact ⟨by rw [q7, opt_app_t hc4] <;> rfl, rfl⟩ | trace_state
                  all_goals first | rfl | omega | trivial
                · trivial
            · skip
              try simp only [decide_eq_true_eq, decide_eq_false_iff_not, Bool.not_eq_true', Bool.not_eq_false', Bool.and_eq_true, Bool.or_eq_true, Bool.or_eq_false_iff, Bool.and_eq_false_imp] at hc4
              refine awp_skip ?_
              try simp only [go_sem, Attrs.cells, segs, u32s, raws, bytes, Raw.cells, bl_length, hm4, hm5]
              refine hK14 _ _ _ ⟨(), [], ?_, ?_⟩
              · (try simp (disch := omega) only [w_i64, w_u8, w_u16, w_u32, w_u64]); simp only [Lss, go_sem, Attrs.cells, segs, u32s, raws, bytes, Raw.cells, bl_length, hm4, hm5]
                first | exact ⟨by rw [q7, opt_app_f hc4] <;> rfl, rfl⟩ | trace_state
                all_goals first | rfl | omega | trivial
              · trivial
          · rintro _u hj
            try simp only [go_sem, Attrs.cells, segs, u32s, raws, bytes, Raw.cells, bl_length, hm4, hm5]
            refine awp_joinE (α := Unit) (fun (_u : Unit) => True) (fun (_u : Unit) => [(6, .l (bytes (q8 w a)))]) (fun (_u : Unit) => [⟨27, a.cells⟩]) (fun (_u : Unit) => []) [1, 2] (fun K20 hK20 => ?_) ?_
            · skip
              refine awp_seq_k fun K21 hK21 => ?_
              refine awp_regionL (by rfl) ?_
              try simp only [go_sem, Attrs.cells, segs, u32s, raws, bytes, Raw.cells, bl_length, hm4, hm5]
              refine hK21 _ _ _ (awp_keep [1, 2, 6, 81] ?_)
              try clear hK21 K21
              try simp only [go_sem, Attrs.cells, segs, u32s, raws, bytes, Raw.cells, bl_length, hm4, hm5]
              refine awp_cond (by rfl) (fun hc7 => ?_) (fun hc7 => ?_)
              · skip
                try simp only [decide_eq_true_eq, decide_eq_false_iff_not, Bool.not_eq_true', Bool.not_eq_false', Bool.and_eq_true, Bool.or_eq_true, Bool.or_eq_false_iff, Bool.and_eq_false_imp] at hc7
                refine awp_seq_k fun K22 hK22 => ?_
                refine awp_regionL (by rfl) ?_
                try simp only [go_sem, Attrs.cells, segs, u32s, raws, bytes, Raw.cells, bl_length, hm4, hm5]
                refine hK22 _ _ _ (awp_keep [1, 2, 6, 8] ?_)
                try clear hK22 K22
                try simp only [go_sem, Attrs.cells, segs, u32s, raws, bytes, Raw.cells, bl_length, hm4, hm5]
                refine awp_seq_k fun K23 hK23 => ?_
                refine awp_seq_k fun K24 hK24 => ?_
                refine awp_regionL (by rfl) ?_
                try simp only [go_sem, Attrs.cells, segs, u32s, raws, bytes, Raw.cells, bl_length, hm4, hm5]
                refine hK24 _ _ _ (awp_keep [1, 2, 6, 8, 9] ?_)
                try clear hK24 K24
                try simp only [go_sem, Attrs.cells, segs, u32s, raws, bytes, Raw.cells, bl_length, hm4, hm5]
                refine awp_block ?_
                refine awp_loopE (α := (Nat)) (fun (k : (Nat)) => k ≤ a.comms.length) (fun (k : (Nat)) => a.comms.length - k) (fun (k : (Nat)) => [(8, .l (bytes ((a.comms.take k).flatMap put32S))), (9, .l (.int .i64 (k : Int)))]) (fun (k : (Nat)) => [⟨27, a.cells⟩]) (fun (k : (Nat)) => []) [1, 2, 6] 0 [] ?_ ?_ ?_
                · simp only [Lss, go_sem, Attrs.cells, segs, u32s, raws, bytes, Raw.cells, bl_length, hm4, hm5]
                  exact ⟨rfl, rfl⟩
                  all_goals first | rfl | omega | trivial
                · first | trivial | omega | (simp; done) | (constructor <;> omega)
                rintro k hk K25 hK25
                try simp only [go_sem, Attrs.cells, segs, u32s, raws, bytes, Raw.cells, bl_length, hm4, hm5]
                refine awp_seq_k fun K26 hK26 => ?_
                refine awp_seq_k fun K27 hK27 => ?_
                refine awp_regionL (by rfl) ?_
                try simp only [go_sem, Attrs.cells, segs, u32s, raws, bytes, Raw.cells, bl_length, hm4, hm5]
                refine hK27 _ _ _ (awp_keep [1, 2, 6, 8, 9, 86] ?_)
                try clear hK27 K27
                try simp only [go_sem, Attrs.cells, segs, u32s, raws, bytes, Raw.cells, bl_length, hm4, hm5]
                refine awp_cond (by rfl) (fun hc8 => ?_) (fun hc8 => ?_)
                · skip
                  try simp only [decide_eq_true_eq, decide_eq_false_iff_not, Bool.not_eq_true', Bool.not_eq_false', Bool.and_eq_true, Bool.or_eq_true, Bool.or_eq_false_iff, Bool.and_eq_false_imp] at hc8
                  have hk2 : k < a.comms.length := by omega
                  refine awp_skip ?_
                  try simp only [go_sem, Attrs.cells, segs, u32s, raws, bytes, Raw.cells, bl_length, hm4, hm5]
                  refine hK26 _ _ _ (awp_keep [1, 2, 6, 8, 9] ?_)
                  try clear hK26 K26
                  try simp only [go_sem, Attrs.cells, segs, u32s, raws, bytes, Raw.cells, bl_length, hm4, hm5]
                  refine awp_seq_k fun K28 hK28 => ?_
                  refine awp_block ?_
                  refine awp_regionL (by rfl) ?_
                  try simp only [go_sem, Attrs.cells, segs, u32s, raws, bytes, Raw.cells, bl_length, hm4, hm5]
                  refine ix_map k rfl (by omega) ?_
                  try simp only [go_sem, Attrs.cells, segs, u32s, raws, bytes, Raw.cells, bl_length, hm4, hm5]
                  refine acall_p (acx_read (ref01_Put32_ok ((a.comms.take k).flatMap put32S) a.comms[k] (by rw [flat32_len]; simp; omega) (hT.comms _ (List.getElem_mem hk2)).1 (hT.comms _ (List.getElem_mem hk2)).2)) (by first | exact ⟨rfl, trivial⟩ | exact ⟨rfl, rfl, trivial⟩ | exact ⟨rfl, rfl, rfl, trivial⟩ | (simp only [go_sem, Attrs.cells, segs, u32s, raws, bytes, Raw.cells, bl_length, hm4, hm5]; done) | (simp only [go_sem, Attrs.cells, segs, u32s, raws, bytes, Raw.cells, bl_length, hm4, hm5] <;> (repeat' apply And.intro) <;> first | rfl | omega | trivial)) ?_
                  try simp only [go_sem, Attrs.cells, segs, u32s, raws, bytes, Raw.cells, bl_length, hm4, hm5]
                  refine hK28 _ _ _ (awp_keep [1, 2, 6, 8, 9] ?_)
                  try clear hK28 K28
                  try simp only [go_sem, Attrs.cells, segs, u32s, raws, bytes, Raw.cells, bl_length, hm4, hm5]
                  refine awp_regionL (by rfl) ?_
                  try simp only [go_sem, Attrs.cells, segs, u32s, raws, bytes, Raw.cells, bl_length, hm4, hm5]
                  try simp (disch := omega) only [w_i64, w_u8, w_u16, w_u32, w_u64]
                  refine hK25 _ _ _ ⟨k + 1, [], ?_, ?_⟩
                  · (try simp (disch := omega) only [w_i64, w_u8, w_u16, w_u32, w_u64]); simp only [Lss, go_sem, Attrs.cells, segs, u32s, raws, bytes, Raw.cells, bl_length, hm4, hm5]
                    exact ⟨⟨by rw [List.take_succ_eq_append_getElem hk2, List.flatMap_append]; simp, by omega⟩, rfl⟩
                    all_goals first | rfl | omega | trivial
                  · first | omega | (constructor <;> omega) | trivial
                · skip
                  try simp only [decide_eq_true_eq, decide_eq_false_iff_not, Bool.not_eq_true', Bool.not_eq_false', Bool.and_eq_true, Bool.or_eq_true, Bool.or_eq_false_iff, Bool.and_eq_false_imp] at hc8
                  obtain rfl : k = a.comms.length := by omega
                  simp only [List.take_length]
                  refine awp_exit ?_
                  try simp only [go_sem, Attrs.cells, segs, u32s, raws, bytes, Raw.cells, bl_length, hm4, hm5]
                  refine hK23 _ _ _ (awp_keep [1, 2, 6, 8] ?_)
                  try clear hK23 K23
                  try simp only [go_sem, Attrs.cells, segs, u32s, raws, bytes, Raw.cells, bl_length, hm4, hm5]
                  refine awp_regionL (by rfl) ?_
                  try simp only [go_sem, Attrs.cells, segs, u32s, raws, bytes, Raw.cells, bl_length, hm4, hm5]
                  refine acall_p (acx_read (ref04_attr_ok (q7 w a) 192 8 (a.comms.flatMap put32S) (.inr (.inr (.inl rfl))) (Nat.le_trans ((q_len (w := w) (small_of hR)).2.2.2.2.2.2.1) (by decide)) (by rw [flat32_len]; omega))) (by first | exact ⟨rfl, trivial⟩ | exact ⟨rfl, rfl, trivial⟩ | exact ⟨rfl, rfl, rfl, trivial⟩ | (simp only [go_sem, Attrs.cells, segs, u32s, raws, bytes, Raw.cells, bl_length, hm4, hm5]; done) | (simp only [go_sem, Attrs.cells, segs, u32s, raws, bytes, Raw.cells, bl_length, hm4, hm5] <;> (repeat' apply And.intro) <;> first | rfl | omega | trivial)) ?_
                  try simp only [go_sem, Attrs.cells, segs, u32s, raws, bytes, Raw.cells, bl_length, hm4, hm5]
                  refine hK20 _ _ _ ⟨(), [], ?_, ?_⟩
                  · (try simp (disch := omega) only [w_i64, w_u8, w_u16, w_u32, w_u64]); simp only [Lss, go_sem, Attrs.cells, segs, u32s, raws, bytes, Raw.cells, bl_length, hm4, hm5]
                    first | exact ⟨by rw [q8, opt_app_t (decide_eq_true hc7)] <;> rfl, rfl⟩ | trace_state
                    all_goals first | rfl | omega | trivial
                  · trivial
              · skip
                try simp only [decide_eq_true_eq, decide_eq_false_iff_not, Bool.not_eq_true', Bool.not_eq_false', Bool.and_eq_true, Bool.or_eq_true, Bool.or_eq_false_iff, Bool.and_eq_false_imp] at hc7
                refine awp_skip ?_
                try simp only [go_sem, Attrs.cells, segs, u32s, raws, bytes, Raw.cells, bl_length, hm4, hm5]
                refine hK20 _ _ _ ⟨(), [], ?_, ?_⟩
                · (try simp (disch := omega) only [w_i64, w_u8, w_u16, w_u32, w_u64]); simp only [Lss, go_sem, Attrs.cells, segs, u32s, raws, bytes, Raw.cells, bl_length, hm4, hm5]
                  first | exact ⟨by rw [q8, opt_app_f (decide_eq_false hc7)] <;> rfl, rfl⟩ | trace_state
                  all_goals first | rfl | omega | trivial
                · trivial
            · rintro _u hj
              try simp only [go_sem, Attrs.cells, segs, u32s, raws, bytes, Raw.cells, bl_length, hm4, hm5]
              refine awp_seq_k fun K29 hK29 => ?_
              refine awp_seq_k fun K30 hK30 => ?_
              refine awp_regionL (by rfl) ?_
              try simp only [go_sem, Attrs.cells, segs, u32s, raws, bytes, Raw.cells, bl_length, hm4, hm5]
              refine hK30 _ _ _ (awp_keep [1, 2, 6, 10] ?_)
              try clear hK30 K30
              try simp only [go_sem, Attrs.cells, segs, u32s, raws, bytes, Raw.cells, bl_length, hm4, hm5]
              refine awp_block ?_
              refine awp_loopE (α := (Nat)) (fun (k : (Nat)) => k ≤ a.raws.length) (fun (k : (Nat)) => a.raws.length - k) (fun (k : (Nat)) => [(6, .l (bytes (q9 w a k))), (10, .l (.int .i64 (k : Int)))]) (fun (k : (Nat)) => [⟨27, a.cells⟩]) (fun (k : (Nat)) => []) [1, 2] 0 [] ?_ ?_ ?_
              · simp only [Lss, go_sem, Attrs.cells, segs, u32s, raws, bytes, Raw.cells, bl_length, hm4, hm5]
                exact ⟨by rw [q9_zero], rfl⟩
                all_goals first | rfl | omega | trivial
              · first | trivial | omega | (simp; done) | (constructor <;> omega)
              rintro k hk K31 hK31
              try simp only [go_sem, Attrs.cells, segs, u32s, raws, bytes, Raw.cells, bl_length, hm4, hm5]
              refine awp_seq_k fun K32 hK32 => ?_
              refine awp_seq_k fun K33 hK33 => ?_
              refine awp_regionL (by rfl) ?_
              try simp only [go_sem, Attrs.cells, segs, u32s, raws, bytes, Raw.cells, bl_length, hm4, hm5]
              refine hK33 _ _ _ (awp_keep [1, 2, 6, 10, 103] ?_)
              try clear hK33 K33
              try simp only [go_sem, Attrs.cells, segs, u32s, raws, bytes, Raw.cells, bl_length, hm4, hm5]
              refine awp_cond (by rfl) (fun hc9 => ?_) (fun hc9 => ?_)
              · skip
                try simp only [decide_eq_true_eq, decide_eq_false_iff_not, Bool.not_eq_true', Bool.not_eq_false', Bool.and_eq_true, Bool.or_eq_true, Bool.or_eq_false_iff, Bool.and_eq_false_imp] at hc9
                have hk3 : k < a.raws.length := by omega
                have hrl := hSm.raws
                have hrw := hSm.raw _ (List.getElem_mem hk3)
                refine awp_skip ?_
                try simp only [go_sem, Attrs.cells, segs, u32s, raws, bytes, Raw.cells, bl_length, hm4, hm5]
                refine hK32 _ _ _ (awp_keep [1, 2, 6, 10] ?_)
                try clear hK32 K32
                try simp only [go_sem, Attrs.cells, segs, u32s, raws, bytes, Raw.cells, bl_length, hm4, hm5]
                refine awp_seq_k fun K34 hK34 => ?_
                refine awp_block ?_
                refine awp_drawP (by kernel_rfl) (by rfl) (by kernel_rfl) (fun _ => true) (.early 0 (.early 1 (.early 2 (.early 3 (.early 4 (.early 5 (.early 6 (.early 7 (.early 8 (.early 9 (.early 10 (.early 11 (.early 12 (.late 13 (.early 14 .done))))))))))))))) (by kernel_rfl) (fun _ _ _ _ => by simp only [go_sem, not_false_eq_true]) ?_
                try simp only [go_sem, Attrs.cells, segs, u32s, raws, bytes, Raw.cells, bl_length, hm4, hm5]
                refine ix_map k rfl (by omega) ?_
                try simp only [go_sem, Attrs.cells, segs, u32s, raws, bytes, Raw.cells, bl_length, hm4, hm5]
                refine ix_map k rfl (by omega) ?_
                try simp only [go_sem, Attrs.cells, segs, u32s, raws, bytes, Raw.cells, bl_length, hm4, hm5]
                refine acall_p (acx_read (ref04_attr_ok (q9 w a k) 224 a.raws[k].typ (a.raws[k].data) (.inr (.inr (.inr rfl))) (Nat.le_trans ((q_len (w := w) (small_of hR)).2.2.2.2.2.2.2.2.1 k) (by decide)) (Nat.le_trans hrw.2 (by decide)))) (by first | exact ⟨rfl, trivial⟩ | exact ⟨rfl, rfl, trivial⟩ | exact ⟨rfl, rfl, rfl, trivial⟩ | (simp only [go_sem, Attrs.cells, segs, u32s, raws, bytes, Raw.cells, bl_length, hm4, hm5]; done) | (simp only [go_sem, Attrs.cells, segs, u32s, raws, bytes, Raw.cells, bl_length, hm4, hm5] <;> (repeat' apply And.intro) <;> first | rfl | omega | trivial)) ?_
                try simp only [go_sem, Attrs.cells, segs, u32s, raws, bytes, Raw.cells, bl_length, hm4, hm5]
                refine hK34 _ _ _ (awp_keep [1, 2, 6, 10] ?_)
                try clear hK34 K34
                try simp only [go_sem, Attrs.cells, segs, u32s, raws, bytes, Raw.cells, bl_length, hm4, hm5]
                refine awp_regionL (by rfl) ?_
                try simp only [go_sem, Attrs.cells, segs, u32s, raws, bytes, Raw.cells, bl_length, hm4, hm5]
                try simp (disch := omega) only [w_i64, w_u8, w_u16, w_u32, w_u64]
                have hsu := q9_succ w a k hk3
                refine hK31 _ _ _ ⟨k + 1, [], ?_, ?_⟩
                · (try simp (disch := omega) only [w_i64, w_u8, w_u16, w_u32, w_u64]); simp only [Lss, go_sem, Attrs.cells, segs, u32s, raws, bytes, Raw.cells, bl_length, hm4, hm5, hsu]
                  first | exact ⟨by omega, rfl⟩ | trace_state
                  all_goals first | rfl | omega | trivial
                · first | omega | (constructor <;> omega) | trivial
              · skip
                try simp only [decide_eq_true_eq, decide_eq_false_iff_not, Bool.not_eq_true', Bool.not_eq_false', Bool.and_eq_true, Bool.or_eq_true, Bool.or_eq_false_iff, Bool.and_eq_false_imp] at hc9
                obtain rfl : k = a.raws.length := by omega
                refine awp_exit ?_
                try simp only [go_sem, Attrs.cells, segs, u32s, raws, bytes, Raw.cells, bl_length, hm4, hm5]
                refine hK29 _ _ _ (awp_keep [1, 2, 6] ?_)
                try clear hK29 K29
                try simp only [go_sem, Attrs.cells, segs, u32s, raws, bytes, Raw.cells, bl_length, hm4, hm5]
                refine awp_seq_k fun K35 hK35 => ?_
                refine awp_regionL (by rfl) ?_
                try simp only [go_sem, Attrs.cells, segs, u32s, raws, bytes, Raw.cells, bl_length, hm4, hm5]
                refine hK35 _ _ _ (awp_keep [1, 2, 6, 11] ?_)
                try clear hK35 K35
                try simp only [go_sem, Attrs.cells, segs, u32s, raws, bytes, Raw.cells, bl_length, hm4, hm5]
                refine awp_seq_k fun K36 hK36 => ?_
                refine awp_regionL (by rfl) ?_
                try simp only [go_sem, Attrs.cells, segs, u32s, raws, bytes, Raw.cells, bl_length, hm4, hm5]
                refine acall_p (acx_read (ref03_Flat_ok a.path (Nat.le_trans (small_of hR).path (by decide)) (Int.le_trans (small_of hR).tot (by decide)))) (by first | exact ⟨rfl, trivial⟩ | exact ⟨rfl, rfl, trivial⟩ | exact ⟨rfl, rfl, rfl, trivial⟩ | (simp only [go_sem, Attrs.cells, segs, u32s, raws, bytes, Raw.cells, bl_length, hm4, hm5]; done) | (simp only [go_sem, Attrs.cells, segs, u32s, raws, bytes, Raw.cells, bl_length, hm4, hm5] <;> (repeat' apply And.intro) <;> first | rfl | omega | trivial)) ?_
                try simp only [go_sem, Attrs.cells, segs, u32s, raws, bytes, Raw.cells, bl_length, hm4, hm5]
                refine hK36 _ _ _ (awp_keep [1, 2, 6, 11, 12] ?_)
                try clear hK36 K36
                try simp only [go_sem, Attrs.cells, segs, u32s, raws, bytes, Raw.cells, bl_length, hm4, hm5]
                refine awp_seq_k fun K37 hK37 => ?_
                refine awp_seq_k fun K38 hK38 => ?_
                refine awp_regionL (by rfl) ?_
                try simp only [go_sem, Attrs.cells, segs, u32s, raws, bytes, Raw.cells, bl_length, hm4, hm5]
                refine hK38 _ _ _ (awp_keep [1, 2, 6, 11, 12, 13] ?_)
                try clear hK38 K38
                try simp only [go_sem, Attrs.cells, segs, u32s, raws, bytes, Raw.cells, bl_length, hm4, hm5]
                refine awp_block ?_
                refine awp_loopE (α := (Nat)) (fun (k : (Nat)) => k ≤ (flat a.path).length) (fun (k : (Nat)) => (flat a.path).length - k) (fun (k : (Nat)) => [(11, .l (.bool (bigS ((flat a.path).take k)))), (13, .l (.int .i64 (k : Int)))]) (fun (k : (Nat)) => [⟨27, a.cells⟩]) (fun (k : (Nat)) => []) [1, 2, 6, 12] 0 [] ?_ ?_ ?_
                · simp only [Lss, go_sem, Attrs.cells, segs, u32s, raws, bytes, Raw.cells, bl_length, hm4, hm5]
                  first | exact ⟨rfl, rfl⟩ | trace_state
                  all_goals first | rfl | omega | trivial
                · first | trivial | omega | (simp; done) | (constructor <;> omega)
                rintro k hk K39 hK39
                try simp only [go_sem, Attrs.cells, segs, u32s, raws, bytes, Raw.cells, bl_length, hm4, hm5]
                have hfl := flat_len a.path
                have hft := hSm.tot
                refine awp_seq_k fun K40 hK40 => ?_
                refine awp_seq_k fun K41 hK41 => ?_
                refine awp_regionL (by rfl) ?_
                try simp only [go_sem, Attrs.cells, segs, u32s, raws, bytes, Raw.cells, bl_length, hm4, hm5]
                refine hK41 _ _ _ (awp_keep [1, 2, 6, 11, 12, 13, 126] ?_)
                try clear hK41 K41
                try simp only [go_sem, Attrs.cells, segs, u32s, raws, bytes, Raw.cells, bl_length, hm4, hm5]
                refine awp_cond (by rfl) (fun hc10 => ?_) (fun hc10 => ?_)
                · skip
                  try simp only [decide_eq_true_eq, decide_eq_false_iff_not, Bool.not_eq_true', Bool.not_eq_false', Bool.and_eq_true, Bool.or_eq_true, Bool.or_eq_false_iff, Bool.and_eq_false_imp] at hc10
                  have hk4 : k < (flat a.path).length := by omega
                  refine awp_skip ?_
                  try simp only [go_sem, Attrs.cells, segs, u32s, raws, bytes, Raw.cells, bl_length, hm4, hm5]
                  refine hK40 _ _ _ (awp_keep [1, 2, 6, 11, 12, 13] ?_)
                  try clear hK40 K40
                  try simp only [go_sem, Attrs.cells, segs, u32s, raws, bytes, Raw.cells, bl_length, hm4, hm5]
                  refine awp_seq_k fun K42 hK42 => ?_
                  refine awp_block ?_
                  refine awp_regionL (by rfl) ?_
                  try simp only [go_sem, Attrs.cells, segs, u32s, raws, bytes, Raw.cells, bl_length, hm4, hm5]
                  refine gix ([.int .u32 (flat a.path)[k]]) (by rfl) (by rfl) (by simp only [go_sem]; rfl) (by simp only [go_sem]) (by decide) (fun hg => ?_) ?_
                  · skip
                    exact ⟨by omega, by simp [ul, hk4]⟩
                  try simp only [go_sem, Attrs.cells, segs, u32s, raws, bytes, Raw.cells, bl_length, hm4, hm5]
                  repeat (refine Must.intro (by intro hh; first | exact hh | exact ⟨hh, hh⟩ | exact ⟨hh, fun h2 => ⟨hh, h2⟩⟩ | (simp [hh]; done) | (simp only [Bool.and_eq_true, Bool.or_eq_false_iff, Bool.not_eq_true', Bool.not_eq_false', decide_eq_true_eq, decide_eq_false_iff_not] at hh ⊢; first | exact hh | exact hh.1 | exact hh.2 | exact ⟨hh, hh⟩ | exact ⟨hh.1, hh.1⟩ | exact ⟨hh.2, hh.2⟩ | exact ⟨hh.1, hh.2⟩ | exact hh.1.1 | exact hh.1.2 | (simp [hh]; done))) ?_; try simp only [go_sem])
                  repeat (refine Must.intro (by intro hh; first | exact hh | exact ⟨hh, hh⟩ | exact ⟨hh, fun h2 => ⟨hh, h2⟩⟩ | (simp [hh]; done) | (simp only [Bool.and_eq_true, Bool.or_eq_false_iff, Bool.not_eq_true', Bool.not_eq_false', decide_eq_true_eq, decide_eq_false_iff_not] at hh ⊢; first | exact hh | exact hh.1 | exact hh.2 | exact ⟨hh, hh⟩ | exact ⟨hh.1, hh.1⟩ | exact ⟨hh.2, hh.2⟩ | exact ⟨hh.1, hh.2⟩ | exact hh.1.1 | exact hh.1.2 | (simp [hh]; done))) ?_; try simp only [go_sem])
                  refine hK42 _ _ _ (awp_keep [1, 2, 6, 11, 12, 13] ?_)
                  try clear hK42 K42
                  try simp only [go_sem, Attrs.cells, segs, u32s, raws, bytes, Raw.cells, bl_length, hm4, hm5]
                  refine awp_regionL (by rfl) ?_
                  try simp only [go_sem, Attrs.cells, segs, u32s, raws, bytes, Raw.cells, bl_length, hm4, hm5]
                  try simp (disch := omega) only [w_i64, w_u8, w_u16, w_u32, w_u64]
                  have hsu := bigS_take_succ (flat a.path) k hk4
                  refine hK39 _ _ _ ⟨k + 1, [], ?_, ?_⟩
                  · (try simp (disch := omega) only [w_i64, w_u8, w_u16, w_u32, w_u64]); simp only [Lss, go_sem, Attrs.cells, segs, u32s, raws, bytes, Raw.cells, bl_length, hm4, hm5, hsu]
                    exact ⟨by omega, rfl⟩
                    all_goals first | rfl | omega | trivial
                  · first | omega | (constructor <;> omega) | trivial
                · skip
                  try simp only [decide_eq_true_eq, decide_eq_false_iff_not, Bool.not_eq_true', Bool.not_eq_false', Bool.and_eq_true, Bool.or_eq_true, Bool.or_eq_false_iff, Bool.and_eq_false_imp] at hc10
                  obtain rfl : k = (flat a.path).length := by omega
                  simp only [List.take_length]
                  refine awp_exit ?_
                  try simp only [go_sem, Attrs.cells, segs, u32s, raws, bytes, Raw.cells, bl_length, hm4, hm5]
                  refine hK37 _ _ _ (awp_keep [1, 2, 6, 11] ?_)
                  try clear hK37 K37
                  try simp only [go_sem, Attrs.cells, segs, u32s, raws, bytes, Raw.cells, bl_length, hm4, hm5]
                  refine awp_joinE (α := Unit) (fun (_u : Unit) => True) (fun (_u : Unit) => [(6, .l (bytes (q10 w a)))]) (fun (_u : Unit) => [⟨27, a.cells⟩]) (fun (_u : Unit) => []) [1, 2] (fun K43 hK43 => ?_) ?_
                  · skip
                    refine awp_seq_k fun K44 hK44 => ?_
                    refine awp_regionL (by rfl) ?_
                    try simp only [go_sem, Attrs.cells, segs, u32s, raws, bytes, Raw.cells, bl_length, hm4, hm5]
                    repeat (refine Must.intro (by intro hh; first | exact hh | exact ⟨hh, hh⟩ | exact ⟨hh, fun h2 => ⟨hh, h2⟩⟩ | (simp [hh]; done) | (simp only [Bool.and_eq_true, Bool.or_eq_false_iff, Bool.not_eq_true', Bool.not_eq_false', decide_eq_true_eq, decide_eq_false_iff_not] at hh ⊢; first | exact hh | exact hh.1 | exact hh.2 | exact ⟨hh, hh⟩ | exact ⟨hh.1, hh.1⟩ | exact ⟨hh.2, hh.2⟩ | exact ⟨hh.1, hh.2⟩ | exact hh.1.1 | exact hh.1.2 | (simp [hh]; done))) ?_; try simp only [go_sem])
                    refine hK44 _ _ _ (awp_keep [1, 2, 6, 141] ?_)
                    try clear hK44 K44
                    try simp only [go_sem, Attrs.cells, segs, u32s, raws, bytes, Raw.cells, bl_length, hm4, hm5]
                    refine awp_cond (by rfl) (fun hc11 => ?_) (fun hc11 => ?_)
                    · skip
                      try simp only [decide_eq_true_eq, decide_eq_false_iff_not, Bool.not_eq_true', Bool.not_eq_false', Bool.and_eq_true, Bool.or_eq_true, Bool.or_eq_false_iff, Bool.and_eq_false_imp] at hc11
                      refine awp_regionL (by rfl) ?_
                      try simp only [go_sem, Attrs.cells, segs, u32s, raws, bytes, Raw.cells, bl_length, hm4, hm5]
                      refine acall_p (acx_read (ref03_Put_ok a.path true (Nat.le_trans (small_of hR).path (by decide)) (Int.le_trans (small_of hR).tot (by decide)) (fun s hs => (hT.path s hs).2))) (by first | exact ⟨rfl, trivial⟩ | exact ⟨rfl, rfl, trivial⟩ | exact ⟨rfl, rfl, rfl, trivial⟩ | (simp only [go_sem, Attrs.cells, segs, u32s, raws, bytes, Raw.cells, bl_length, hm4, hm5]; done) | (simp only [go_sem, Attrs.cells, segs, u32s, raws, bytes, Raw.cells, bl_length, hm4, hm5] <;> (repeat' apply And.intro) <;> first | rfl | omega | trivial)) ?_
                      try simp only [go_sem, Attrs.cells, segs, u32s, raws, bytes, Raw.cells, bl_length, hm4, hm5]
                      refine acall_p (acx_read (ref04_attr_ok (q9 w a a.raws.length) 192 17 (pathS true a.path) (.inr (.inr (.inl rfl))) (Nat.le_trans ((q_len (w := w) (small_of hR)).2.2.2.2.2.2.2.2.1 a.raws.length) (by decide)) (Nat.le_trans (q_len (w := w) (small_of hR)).2.2.2.2.2.2.2.2.2.2.2 (by decide)))) (by first | exact ⟨rfl, trivial⟩ | exact ⟨rfl, rfl, trivial⟩ | exact ⟨rfl, rfl, rfl, trivial⟩ | (simp only [go_sem, Attrs.cells, segs, u32s, raws, bytes, Raw.cells, bl_length, hm4, hm5]; done) | (simp only [go_sem, Attrs.cells, segs, u32s, raws, bytes, Raw.cells, bl_length, hm4, hm5] <;> (repeat' apply And.intro) <;> first | rfl | omega | trivial)) ?_
                      try simp only [go_sem, Attrs.cells, segs, u32s, raws, bytes, Raw.cells, bl_length, hm4, hm5]
                      refine hK43 _ _ _ ⟨(), [], ?_, ?_⟩
                      · (try simp (disch := omega) only [w_i64, w_u8, w_u16, w_u32, w_u64]); simp only [Lss, go_sem, Attrs.cells, segs, u32s, raws, bytes, Raw.cells, bl_length, hm4, hm5]
                        first | exact ⟨by rw [q10, opt_app_t (by simp [hc11])] <;> rfl, rfl⟩ | trace_state
                        all_goals first | rfl | omega | trivial
                      · trivial
                    · skip
                      try simp only [decide_eq_true_eq, decide_eq_false_iff_not, Bool.not_eq_true', Bool.not_eq_false', Bool.and_eq_true, Bool.or_eq_true, Bool.or_eq_false_iff, Bool.and_eq_false_imp] at hc11
                      refine awp_skip ?_
                      try simp only [go_sem, Attrs.cells, segs, u32s, raws, bytes, Raw.cells, bl_length, hm4, hm5]
                      refine hK43 _ _ _ ⟨(), [], ?_, ?_⟩
                      · (try simp (disch := omega) only [w_i64, w_u8, w_u16, w_u32, w_u64]); simp only [Lss, go_sem, Attrs.cells, segs, u32s, raws, bytes, Raw.cells, bl_length, hm4, hm5]
                        first | exact ⟨by rw [q10, opt_app_f (by simp; exact hc11)] <;> rfl, rfl⟩ | trace_state
                        all_goals first | rfl | omega | trivial
                      · trivial
                  · rintro _u hj
                    try simp only [go_sem, Attrs.cells, segs, u32s, raws, bytes, Raw.cells, bl_length, hm4, hm5]
                    refine awp_joinE (α := Unit) (fun (_u : Unit) => True) (fun (_u : Unit) => [(6, .l (bytes (q11 w a)))]) (fun (_u : Unit) => [⟨27, a.cells⟩]) (fun (_u : Unit) => []) [] (fun K45 hK45 => ?_) ?_
                    · skip
                      refine awp_seq_k fun K46 hK46 => ?_
                      refine awp_regionL (by rfl) ?_
                      try simp only [go_sem, Attrs.cells, segs, u32s, raws, bytes, Raw.cells, bl_length, hm4, hm5]
                      repeat (refine Must.intro (by intro hh; first | exact hh | exact ⟨hh, hh⟩ | exact ⟨hh, fun h2 => ⟨hh, h2⟩⟩ | (simp [hh]; done) | (simp only [Bool.and_eq_true, Bool.or_eq_false_iff, Bool.not_eq_true', Bool.not_eq_false', decide_eq_true_eq, decide_eq_false_iff_not] at hh ⊢; first | exact hh | exact hh.1 | exact hh.2 | exact ⟨hh, hh⟩ | exact ⟨hh.1, hh.1⟩ | exact ⟨hh.2, hh.2⟩ | exact ⟨hh.1, hh.2⟩ | exact hh.1.1 | exact hh.1.2 | (simp [hh]; done))) ?_; try simp only [go_sem])
                      refine hK46 _ _ _ (awp_keep [2, 6, 153] ?_)
                      try clear hK46 K46
                      try simp only [go_sem, Attrs.cells, segs, u32s, raws, bytes, Raw.cells, bl_length, hm4, hm5]
                      refine awp_cond (by rfl) (fun hc12 => ?_) (fun hc12 => ?_)
                      · skip
                        try simp only [decide_eq_true_eq, decide_eq_false_iff_not, Bool.not_eq_true', Bool.not_eq_false', Bool.and_eq_true, Bool.or_eq_true, Bool.or_eq_false_iff, Bool.and_eq_false_imp] at hc12
                        refine awp_drawP (by kernel_rfl) (by rfl) (by kernel_rfl) (fun _ => true) (.early 0 (.early 1 (.early 2 (.early 4 (.early 5 (.last 3 (.last 6 (.late 7 (.early 8 .done))))))))) (by kernel_rfl) (fun _ _ _ _ => by simp only [go_sem, not_false_eq_true]) ?_
                        try simp only [go_sem, Attrs.cells, segs, u32s, raws, bytes, Raw.cells, bl_length, hm4, hm5]
                        refine acall_p (acx_read (ref01_Put32_ok [] a.aggrAS (by simp) has.1 has.2)) (by first | exact ⟨rfl, trivial⟩ | exact ⟨rfl, rfl, trivial⟩ | exact ⟨rfl, rfl, rfl, trivial⟩ | (simp only [go_sem, Attrs.cells, segs, u32s, raws, bytes, Raw.cells, bl_length, hm4, hm5]; done) | (simp only [go_sem, Attrs.cells, segs, u32s, raws, bytes, Raw.cells, bl_length, hm4, hm5] <;> (repeat' apply And.intro) <;> first | rfl | omega | trivial)) ?_
                        try simp only [go_sem, Attrs.cells, segs, u32s, raws, bytes, Raw.cells, bl_length, hm4, hm5]
                        refine acall_p (acx_read (ref01_Put32_ok (put32S a.aggrAS) a.aggrAddr (by simp) had.1 had.2)) (by first | exact ⟨rfl, trivial⟩ | exact ⟨rfl, rfl, trivial⟩ | exact ⟨rfl, rfl, rfl, trivial⟩ | (simp only [go_sem, Attrs.cells, segs, u32s, raws, bytes, Raw.cells, bl_length, hm4, hm5]; done) | (simp only [go_sem, Attrs.cells, segs, u32s, raws, bytes, Raw.cells, bl_length, hm4, hm5] <;> (repeat' apply And.intro) <;> first | rfl | omega | trivial)) ?_
                        try simp only [go_sem, Attrs.cells, segs, u32s, raws, bytes, Raw.cells, bl_length, hm4, hm5]
                        refine acall_p (acx_read (ref04_attr_ok (q10 w a) 192 18 (put32S a.aggrAS ++ put32S a.aggrAddr) (.inr (.inr (.inl rfl))) (Nat.le_trans ((q_len (w := w) (small_of hR)).2.2.2.2.2.2.2.2.2.1) (by decide)) (by simp))) (by first | exact ⟨rfl, trivial⟩ | exact ⟨rfl, rfl, trivial⟩ | exact ⟨rfl, rfl, rfl, trivial⟩ | (simp only [go_sem, Attrs.cells, segs, u32s, raws, bytes, Raw.cells, bl_length, hm4, hm5]; done) | (simp only [go_sem, Attrs.cells, segs, u32s, raws, bytes, Raw.cells, bl_length, hm4, hm5] <;> (repeat' apply And.intro) <;> first | rfl | omega | trivial)) ?_
                        try simp only [go_sem, Attrs.cells, segs, u32s, raws, bytes, Raw.cells, bl_length, hm4, hm5]
                        refine hK45 _ _ _ ⟨(), [], ?_, ?_⟩
                        · (try simp (disch := omega) only [w_i64, w_u8, w_u16, w_u32, w_u64]); simp only [Lss, go_sem, Attrs.cells, segs, u32s, raws, bytes, Raw.cells, bl_length, hm4, hm5]
                          first | exact ⟨by rw [q11, opt_app_t (by simp [hc12])] <;> rfl, rfl⟩ | trace_state
                          all_goals first | rfl | omega | trivial
                        · trivial
                      · skip
                        try simp only [decide_eq_true_eq, decide_eq_false_iff_not, Bool.not_eq_true', Bool.not_eq_false', Bool.and_eq_true, Bool.or_eq_true, Bool.or_eq_false_iff, Bool.and_eq_false_imp] at hc12
                        refine awp_skip ?_
                        try simp only [go_sem, Attrs.cells, segs, u32s, raws, bytes, Raw.cells, bl_length, hm4, hm5]
                        refine hK45 _ _ _ ⟨(), [], ?_, ?_⟩
                        · (try simp (disch := omega) only [w_i64, w_u8, w_u16, w_u32, w_u64]); simp only [Lss, go_sem, Attrs.cells, segs, u32s, raws, bytes, Raw.cells, bl_length, hm4, hm5]
                          first | exact ⟨by rw [q11, opt_app_f (by cases w <;> simp_all)] <;> rfl, rfl⟩ | trace_state
                          all_goals first | rfl | omega | trivial
                        · trivial
                    · rintro _u hj
                      try simp only [go_sem, Attrs.cells, segs, u32s, raws, bytes, Raw.cells, bl_length, hm4, hm5]
                      refine awp_seq_k fun K47 hK47 => ?_
                      refine awp_regionL (by rfl) ?_
                      try simp only [go_sem, Attrs.cells, segs, u32s, raws, bytes, Raw.cells, bl_length, hm4, hm5]
                      refine hK47 _ _ _ (awp_keep [4, 5] ?_)
                      try clear hK47 K47
                      try simp only [go_sem, Attrs.cells, segs, u32s, raws, bytes, Raw.cells, bl_length, hm4, hm5]
                      refine awp_ret ?_
                      try simp only [go_sem, Attrs.cells, segs, u32s, raws, bytes, Raw.cells, bl_length, hm4, hm5]
                      try clear hK47 K47
                      try clear hK46 K46
                      try clear hK45 K45
                      try clear hK44 K44
                      try clear hK43 K43
                      try clear hK42 K42
                      try clear hK41 K41
                      try clear hK40 K40
                      try clear hK39 K39
                      try clear hK38 K38
                      try clear hK37 K37
                      try clear hK36 K36
                      try clear hK35 K35
                      try clear hK34 K34
                      try clear hK33 K33
                      try clear hK32 K32
                      try clear hK31 K31
                      try clear hK30 K30
                      try clear hK29 K29
                      try clear hK28 K28
                      try clear hK27 K27
                      try clear hK26 K26
                      try clear hK25 K25
                      try clear hK24 K24
                      try clear hK23 K23
                      try clear hK22 K22
                      try clear hK21 K21
                      try clear hK20 K20
                      try clear hK19 K19
                      try clear hK18 K18
                      try clear hK17 K17
                      try clear hK16 K16
                      try clear hK15 K15
                      try clear hK14 K14
                      try clear hK13 K13
                      try clear hK12 K12
                      try clear hK11 K11
                      try clear hK10 K10
                      try clear hK9 K9
                      try clear hK8 K8
                      try clear hK7 K7
                      try clear hK6 K6
                      try clear hK5 K5
                      try clear hK4 K4
                      try clear hK3 K3
                      try clear hK2 K2
                      try clear hK1 K1
                      refine ret_p (by simp) (by rfl) ?_ (by rfl)
                      (try simp (disch := omega) only [w_i64, w_u8, w_u16, w_u32, w_u64]); simp only [go_sem, Attrs.cells, segs, u32s, raws, bytes, Raw.cells, bl_length, hm4, hm5] <;> (simp [putA, putE, hR])

end Go.Abs
