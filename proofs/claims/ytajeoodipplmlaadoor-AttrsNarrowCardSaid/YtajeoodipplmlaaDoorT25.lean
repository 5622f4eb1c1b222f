/-
  READING ATTRIBUTES, 6: the reading itself.
-/
import Derived.Test.YtajeoodipplmlaaDoorT24
set_option linter.all false
namespace Go.Abs
open Go Go.Proofs
def endP (g : Rdg) : List Seg := if 2 ∈ g.kinds then mergeS g.a.path g.more else g.a.path
def withP (g : Rdg) (l : List Seg) : Rdg := { g with a := { g.a with path := l } }
def endG (g : Rdg) : Rdg :=
  if g.wide = true ∨ (g.hasOld = true ∧ ¬ g.oldAS = 23456) then g
  else if g.hasOld = true ∧ 0 < (g.newAS.length : Int) then { g with a := { g.a with path := endP g, aggrAS := u4 g.newAS, aggrAddr := (Rd.take ⟨g.newAS, false⟩ 4).2.num 4 } }
  else withP g (endP g)
theorem endG_w {g : Rdg} (h : g.wide = true ∨ (g.hasOld = true ∧ ¬ g.oldAS = 23456)) : endG g = g := by simp only [endG, if_pos h]
theorem endG_n {g : Rdg} (h : ¬ (g.wide = true ∨ (g.hasOld = true ∧ ¬ g.oldAS = 23456))) (h2 : g.hasOld = true ∧ 0 < (g.newAS.length : Int)) : endG g = { g with a := { g.a with path := endP g, aggrAS := u4 g.newAS, aggrAddr := (Rd.take ⟨g.newAS, false⟩ 4).2.num 4 } } := by simp only [endG, if_neg h, if_pos h2]
theorem endG_o {g : Rdg} (h : ¬ (g.wide = true ∨ (g.hasOld = true ∧ ¬ g.oldAS = 23456))) (h2 : ¬ (g.hasOld = true ∧ 0 < (g.newAS.length : Int))) : endG g = withP g (endP g) := by simp only [endG, if_neg h, if_neg h2]

section
attribute [local go_sem] Rdg.blk Rdg.cells Rdg.rows One.cells bytes segs Flt.cells Rd.blk Rd.cells withP ints
set_option maxRecDepth 20000 in
set_option maxHeartbeats 8000000 in
theorem end_ok (g : Rdg) (h1 : Short g.a.path) (h2 : Short g.more) (hn : g.newAS.length ≤ 1000000) : ACX Go.Proofs.Tryd.prog G0 56 [.l (.ptr 0 0)] [g.blk] g.rows (.tup []) [(endG g).blk] (endG g).rows := by
 refine acalls_intro Go.Proofs.Tryd.func56 rfl (by kernel_rfl) Go.Proofs.Tryd.ntmps56 Go.Proofs.Tryd.results56 (by simp) rfl rfl ?_
 try simp only [go_sem]
 have hr2 := rd_take_rest ⟨g.newAS, false⟩ 4
 simp only at hr2
 refine awp_seq_k fun K1 hK1 => ?_
 refine awp_seq_k fun K2 hK2 => ?_
 refine awp_regionL (by rfl) ?_
 try simp only [go_sem]
 repeat (refine Must.au ?_; try simp only [go_sem])
 refine hK2 _ _ _ (awp_keep [0, 19] ?_)
 try clear hK2 K2
 try simp only [go_sem]
 refine awp_cond (by rfl) (fun hc0 => ?_) (fun hc0 => ?_)
 ·
  skip
  try simp only [decide_eq_true_eq, decide_eq_false_iff_not, Bool.not_eq_true', Bool.not_eq_false', Bool.and_eq_true, Bool.or_eq_true, Bool.or_eq_false_iff, Bool.and_eq_false_imp] at hc0
  have he := endG_w hc0
  refine awp_ret ?_
  try simp only [go_sem]
  try clear hK2 K2
  try clear hK1 K1
  refine ret_x [0, 1, 2] (by simp) (by rfl) ?_ (by rfl) ?_ (by rfl) (by simp) (by simp) (by rfl) ?_ <;> ((try simp (disch := omega) only [w_i64, w_u8, w_u16, w_u32, w_u64]); simp only [go_sem]) <;> ((try rw [he]) <;> (repeat' apply And.intro) <;> first | rfl | (simp; done))
 ·
  skip
  try simp only [decide_eq_true_eq, decide_eq_false_iff_not, Bool.not_eq_true', Bool.not_eq_false', Bool.and_eq_true, Bool.or_eq_true, Bool.or_eq_false_iff, Bool.and_eq_false_imp] at hc0
  have hno : ¬ (g.wide = true ∨ (g.hasOld = true ∧ ¬ g.oldAS = 23456)) := by
   rintro (h | ⟨h1, h2⟩)
   ·
    rw [hc0.1] at h; cases h
   ·
    exact h2 (hc0.2 h1)
  refine awp_skip ?_
  try simp only [go_sem]
  refine hK1 _ _ _ (awp_keep [0] ?_)
  try clear hK1 K1
  try simp only [go_sem]
  refine awp_joinE (α := Unit) (fun (_u : Unit) => True) (fun (_u : Unit) => []) (fun (_u : Unit) => [(withP g (endP g)).blk]) (fun (_u : Unit) => g.rows) [0] (fun K3 hK3 => ?_) ?_
  ·
   skip
   refine awp_seq_k fun K4 hK4 => ?_
   refine awp_regionL (by rfl) ?_
   try simp only [go_sem]
   refine acall_pa (Contains_int_ok g.kinds 2) ?_
   try simp only [go_sem]
   refine hK4 _ _ _ (awp_keep [0, 24] ?_)
   try clear hK4 K4
   try simp only [go_sem]
   refine awp_cond (by rfl) (fun hc1 => ?_) (fun hc1 => ?_)
   ·
    skip
    try simp only [decide_eq_true_eq, decide_eq_false_iff_not, Bool.not_eq_true', Bool.not_eq_false', Bool.and_eq_true, Bool.or_eq_true, Bool.or_eq_false_iff, Bool.and_eq_false_imp] at hc1
    refine awp_drawP (by kernel_rfl) (by rfl) (by kernel_rfl) (fun _ => true) (.early 0 (.early 1 (.early 2 (.early 3 (.early 4 (.early 5 (.early 6 (.early 7 (.early 8 (.early 9 (.late 10 (.early 11 (.early 12 (.early 13 (.late 14 .done))))))))))))))) (by kernel_rfl) (fun _ _ _ _ => by simp only [go_sem, not_false_eq_true]) ?_
    try simp only [go_sem]
    refine acall_pa (aspath_Merge_ok g.a.path g.more h1 h2) ?_
    try simp only [go_sem]
    have e1 : endP g = mergeS g.a.path g.more := if_pos hc1
    refine hK3 _ _ _ ⟨(), [0, 1, 2], ?_, ?_⟩
    ·
     (try simp (disch := omega) only [w_i64, w_u8, w_u16, w_u32, w_u64]); simp only [Lss, go_sem, e1]
     (repeat' apply And.intro) <;> first | rfl | omega | trivial | (simp; done)
    ·
     first | omega | (constructor <;> omega) | trivial
   ·
    skip
    try simp only [decide_eq_true_eq, decide_eq_false_iff_not, Bool.not_eq_true', Bool.not_eq_false', Bool.and_eq_true, Bool.or_eq_true, Bool.or_eq_false_iff, Bool.and_eq_false_imp] at hc1
    refine awp_skip ?_
    try simp only [go_sem]
    have e1 : endP g = g.a.path := if_neg hc1
    refine hK3 _ _ _ ⟨(), [0, 1, 2], ?_, ?_⟩
    ·
     (try simp (disch := omega) only [w_i64, w_u8, w_u16, w_u32, w_u64]); simp only [Lss, go_sem, e1]
     (repeat' apply And.intro) <;> first | rfl | omega | trivial | (simp; done)
    ·
     first | omega | (constructor <;> omega) | trivial
  ·
   rintro _u hj
   try simp only [go_sem]
   refine awp_seq_k fun K5 hK5 => ?_
   refine awp_regionL (by rfl) ?_
   try simp only [go_sem]
   repeat (refine Must.au ?_; try simp only [go_sem])
   refine hK5 _ _ _ (awp_keep [0, 50] ?_)
   try clear hK5 K5
   try simp only [go_sem]
   refine awp_cond (by rfl) (fun hc2 => ?_) (fun hc2 => ?_)
   ·
    skip
    try simp only [decide_eq_true_eq, decide_eq_false_iff_not, Bool.not_eq_true', Bool.not_eq_false', Bool.and_eq_true, Bool.or_eq_true, Bool.or_eq_false_iff, Bool.and_eq_false_imp] at hc2
    have he := endG_n hno hc2
    refine awp_seq_k fun K6 hK6 => ?_
    refine awp_regionL (by rfl) ?_
    try simp only [go_sem]
    refine acall_xa (octet_New_ok g.newAS (by omega)) [] [] ?_
    try simp only [go_sem]
    refine hK6 _ _ _ (awp_keep [0, 2] ?_)
    try clear hK6 K6
    try simp only [go_sem]
    refine awp_regionL (by rfl) ?_
    try simp only [go_sem]
    refine acall_xa (octet_U32_ok ⟨g.newAS, false⟩ (by simp only; omega)) [1] [] ?_
    try simp only [go_sem]
    refine acall_xa (octet_U32_ok (Rd.take ⟨g.newAS, false⟩ 4).2 (by omega)) [1] [] ?_
    try simp only [go_sem]
    try clear hK6 K6
    try clear hK5 K5
    try clear hK4 K4
    try clear hK3 K3
    try clear hK2 K2
    try clear hK1 K1
    refine ret_x [0, 1, 2] (by simp) (by rfl) ?_ (by rfl) ?_ (by rfl) (by simp) (by simp) (by rfl) ?_ <;> ((try simp (disch := omega) only [w_i64, w_u8, w_u16, w_u32, w_u64]); simp only [go_sem]) <;> ((try rw [he]) <;> (repeat' apply And.intro) <;> first | rfl | (simp; done))
   ·
    skip
    try simp only [decide_eq_true_eq, decide_eq_false_iff_not, Bool.not_eq_true', Bool.not_eq_false', Bool.and_eq_true, Bool.or_eq_true, Bool.or_eq_false_iff, Bool.and_eq_false_imp] at hc2
    have he := endG_o hno (fun h => hc2 h.1 h.2)
    refine awp_skip ?_
    try simp only [go_sem]
    try clear hK6 K6
    try clear hK5 K5
    try clear hK4 K4
    try clear hK3 K3
    try clear hK2 K2
    try clear hK1 K1
    refine ret_x [0, 1, 2] (by simp) (by rfl) ?_ (by rfl) ?_ (by rfl) (by simp) (by simp) (by rfl) ?_ <;> ((try simp (disch := omega) only [w_i64, w_u8, w_u16, w_u32, w_u64]); simp only [go_sem]) <;> ((try rw [he]) <;> (repeat' apply And.intro) <;> first | rfl | (simp; done))
end

def lkL (k : Int) : Int := if k = 1 then 1 else if k = 3 ∨ k = 4 ∨ k = 5 then 4 else if k = 7 then 6 else 0
def lkM (k : Int) : Int := if k = 1 then 1 else if k = 3 ∨ k = 4 ∨ k = 5 then 4 else if k = 6 then 0 else if k = 7 then 8 else 65536
def formX (w : Bool) (x : One) : Flt := formF w x (flagsS x.kind) (lkL x.kind) (lkM x.kind)
theorem known_cases {k : Int} (h : knownS k = true) : k = 1 ∨ k = 2 ∨ k = 3 ∨ k = 4 ∨ k = 5 ∨ k = 6 ∨ k = 7 ∨ k = 8 ∨ k = 17 ∨ k = 18 := by
  unfold knownS flagsS at h
  by_cases h1 : k = 1 ∨ k = 2 ∨ k = 3 ∨ k = 5 ∨ k = 6
  · omega
  · rw [if_neg h1] at h
    by_cases h2 : k = 4
    · omega
    · rw [if_neg h2] at h
      by_cases h3 : k = 7 ∨ k = 8 ∨ k = 17 ∨ k = 18
      · omega
      · rw [if_neg h3] at h; simp at h
theorem form_known (g : Rdg) (x : One) (hk : knownS x.kind = true) : ACX Go.Proofs.Tryd.prog G0 54 [.l (.ptr 0 0), .agg x.cells] [g.blk] g.rows (.agg (formX g.wide x).cells) [g.blk] g.rows := by
  unfold formX
  rcases known_cases hk with h | h | h | h | h | h | h | h | h | h
  · exact form_ok g x 1 (by decide) h _ _ _ (by rw [h]; rfl)
  · exact form_ok g x 2 (by decide) h _ _ _ (by rw [h]; rfl)
  · exact form_ok g x 3 (by decide) h _ _ _ (by rw [h]; rfl)
  · exact form_ok g x 4 (by decide) h _ _ _ (by rw [h]; rfl)
  · exact form_ok g x 5 (by decide) h _ _ _ (by rw [h]; rfl)
  · exact form_ok g x 6 (by decide) h _ _ _ (by rw [h]; rfl)
  · exact form_ok g x 7 (by decide) h _ _ _ (by rw [h]; rfl)
  · exact form_ok g x 8 (by decide) h _ _ _ (by rw [h]; rfl)
  · exact form_ok g x 17 (by decide) h _ _ _ (by rw [h]; rfl)
  · exact form_ok g x 18 (by decide) h _ _ _ (by rw [h]; rfl)
theorem il_app (a b : List Int) : il (a ++ b) = il a ++ il b := by simp [il]
theorem il_one (x : Int) : il [x] = [[.int .i64 x]] := rfl
def addK (g : Rdg) (k : Int) : Rdg := { g with kinds := g.kinds ++ [k] }
def stepOk (g : Rdg) (b : List Int) : Bool :=
  !(spR4 b).short && !decide ((splitO b).kind ∈ g.kinds) && decide (g.a.comms.length + (splitO b).value.length ≤ 1000000) &&
    (if knownS (splitO b).kind = true then decide ((formX g.wide (splitO b)).code = 0) && decide ((knF (addK g (splitO b).kind) (splitO b)).code = 0)
      else decide (∀ y ∈ g.a.raws, y.typ ≤ (splitO b).kind) && decide ((unkF (addK g (splitO b).kind) (splitO b)).code = 0))
def stepR (g : Rdg) (b : List Int) : Rdg := if knownS (splitO b).kind = true then knG (addK g (splitO b).kind) (splitO b) else unkG (addK g (splitO b).kind) (splitO b)
def readL : Nat → Rdg → List Int → Option Rdg
  | 0, _, _ => none
  | m + 1, g, b => if b = [] then some g else if stepOk g b = true then readL m (stepR g b) (splitB b) else none
theorem readL_nil {m : Nat} {g g' : Rdg} (h : readL m g [] = some g') : g = g' := by
  cases m with
  | zero => cases h
  | succ m => simpa [readL] using h
theorem readL_cons {m : Nat} {g g' : Rdg} {b : List Int} (hb : ¬ b = []) (h : readL m g b = some g') : ∃ mp, m = mp + 1 ∧ stepOk g b = true ∧ readL mp (stepR g b) (splitB b) = some g' := by
  cases m with
  | zero => cases h
  | succ m =>
    simp only [readL, if_neg hb] at h
    split at h
    · rename_i hs; exact ⟨m, rfl, hs, h⟩
    · cases h
theorem splitB_le (b : List Int) : (splitB b).length ≤ b.length := by
  unfold splitB; split
  · simp
  · simp
def rd0 (w : Bool) : Rdg := ⟨zeroS, [], [], false, 0, [], w⟩
theorem withPath_kinds (g : Rdg) (v : List Int) : (withPath g v).kinds = g.kinds := by unfold withPath; split <;> rfl
theorem lstG_kinds (g : Rdg) (x : One) : (lstG g x).kinds = g.kinds := by unfold lstG; split <;> rfl
theorem withAS_kinds (g : Rdg) (v : List Int) : (withAS g v).kinds = g.kinds := by unfold withAS; split <;> rfl
theorem knG_kinds (g : Rdg) (x : One) : (knG g x).kinds = g.kinds := by
  by_cases hk : knownS x.kind = true
  · rcases known_cases hk with h | h | h | h | h | h | h | h | h | h
    · rw [knG_1 h]
    · simp only [knG, h]; exact withPath_kinds g _
    · rw [knG_3 h]
    · rw [knG_4 h]
    · rw [knG_5 h]
    · rw [knG_6 h]
    · rw [knG_7 h]; rfl
    · rw [knG_8 h]; exact lstG_kinds g x
    · rw [knG_17 h]
    · simp only [knG, h]; exact withAS_kinds g _
  · rw [knG_0] <;> (intro h; rw [h] at hk; exact hk (by decide))
theorem unkG_kinds (g : Rdg) (x : One) : (unkG g x).kinds = g.kinds := by unfold unkG; split <;> rfl
theorem stepR_kinds (g : Rdg) (b : List Int) : (stepR g b).kinds = g.kinds ++ [(splitO b).kind] := by
  unfold stepR
  split
  · exact knG_kinds _ _
  · exact unkG_kinds _ _

set_option maxRecDepth 20000 in
set_option maxHeartbeats 8000000 in
theorem attrs_Zero_cap  : ACX Go.Proofs.Tryd.prog G0 17 [] [] [] (.agg [.int .i64 0, .slice .cap0 2 [], .int .u32 0, .int .i64 (-1), .int .i64 (-1), .bool false, .bool false, .int .u32 0, .int .u32 0, .slice .cap0 1 [], .slice .cap0 3 []]) [] [] := by
 refine acalls_intro Go.Proofs.Tryd.func17 rfl (by kernel_rfl) Go.Proofs.Tryd.ntmps17 Go.Proofs.Tryd.results17 (by simp) rfl rfl ?_
 try simp only [go_sem]
 refine awp_seq_k fun K1 hK1 => ?_
 refine awp_regionL (by rfl) ?_
 try simp only [go_sem]
 refine hK1 _ _ _ (awp_keep [0] ?_)
 try clear hK1 K1
 try simp only [go_sem]
 refine awp_seq_k fun K2 hK2 => ?_
 refine awp_regionL (by rfl) ?_
 try simp only [go_sem]
 refine hK2 _ _ _ (awp_keep [0] ?_)
 try clear hK2 K2
 try simp only [go_sem]
 refine awp_ret ?_
 try simp only [go_sem]
 try clear hK2 K2
 try clear hK1 K1
 refine ret_p (by simp) (by rfl) ?_ (by rfl)
 (try simp (disch := omega) only [w_i64, w_u8, w_u16, w_u32, w_u64]); simp only [go_sem] <;> (first | rfl | omega | trivial | (simp; done) | simp_all)

section
attribute [local go_sem] Rdg.blk Rdg.cells Rdg.rows One.cells bytes segs ints Flt.cells Attrs.cells u32s raws addK il_app il_one List.length_append List.length_cons List.length_nil
set_option maxRecDepth 20000 in
set_option maxHeartbeats 8000000 in
theorem attrs_Read_ok (b : List Int) (w : Bool) (g2 : Rdg) (hb : b.length ≤ 1000000) (h : readL (b.length + 1) (rd0 w) b = some g2) (h1 : Short g2.a.path) (h2 : Short g2.more) (hn : g2.newAS.length ≤ 1000000) : ACX Go.Proofs.Tryd.prog G0 23 [.l (bytes b), .l (.bool w)] [] [] (.tup [.agg (endG g2).a.cells, .l (ints (endG g2).kinds), .agg noF.cells]) [] [] := by
 refine acalls_intro Go.Proofs.Tryd.func23 rfl (by kernel_rfl) Go.Proofs.Tryd.ntmps23 Go.Proofs.Tryd.results23 (by simp) rfl rfl ?_
 try simp only [go_sem]
 refine awp_seq_k fun K1 hK1 => ?_
 refine awp_regionL (by rfl) ?_
 try simp only [go_sem]
 refine hK1 _ _ _ (awp_keep [0, 1, 4, 6] ?_)
 try clear hK1 K1
 try simp only [go_sem]
 refine awp_seq_k fun K2 hK2 => ?_
 refine awp_regionL (by rfl) ?_
 try simp only [go_sem]
 refine acall_pa (attrs_Zero_cap) ?_
 try simp only [go_sem]
 refine hK2 _ _ _ (awp_keep [0, 4, 6, 7] ?_)
 try clear hK2 K2
 try simp only [go_sem]
 refine awp_seq_k fun K3 hK3 => ?_
 refine awp_regionL (by rfl) ?_
 try simp only [go_sem]
 refine acall_pa (Clone_u8_ok b (by omega)) ?_
 try simp only [go_sem]
 refine hK3 _ _ _ (awp_keep [4, 6, 7, 8] ?_)
 try clear hK3 K3
 try simp only [go_sem]
 refine awp_seq_k fun K4 hK4 => ?_
 refine awp_block ?_
 refine awp_beginC 2 11 3 1 rfl rfl ?_
 simp only [go_sem]
 refine awp_beginC 2 9 23 1 rfl rfl ?_
 simp only [go_sem]
 refine awp_beginC 2 10 53 3 rfl rfl ?_
 simp only [go_sem]
 refine awp_loopE (α := (Nat) × (Rdg) × (List Int)) (fun (z : (Nat) × (Rdg) × (List Int)) => match z with | (m, g, r) => readL m g r = some g2 ∧ r.length ≤ b.length ∧ g.kinds.length + m = b.length + 1) (fun (z : (Nat) × (Rdg) × (List Int)) => match z with | (m, g, r) => m) (fun (z : (Nat) × (Rdg) × (List Int)) => match z with | (m, g, r) => [(8, .l (bytes r))]) (fun (z : (Nat) × (Rdg) × (List Int)) => match z with | (m, g, r) => [⟨27, [.int .i64 0, .slice .cap0 2 [], .int .u32 0, .int .i64 0, .int .i64 0, .bool false, .bool false, .int .u32 0, .int .u32 0, .slice .cap0 1 [], .slice .cap0 3 []]⟩, ⟨46, [.int .i64 0, .int .i64 0, .slice .cap0 1 []]⟩, g.blk]) (fun (z : (Nat) × (Rdg) × (List Int)) => match z with | (m, g, r) => g.rows) [4, 6, 7] ⟨b.length + 1, rd0 w, b⟩ [0, 1, 2] ?_ ?_ ?_
 ·
  simp only [Lss, go_sem]
  (repeat' apply And.intro) <;> first | rfl | omega | trivial | (simp; done)
 ·
  exact ⟨h, Nat.le_refl _, by simp [rd0]⟩
 rintro ⟨m, g, r⟩ ⟨hq, hr, hm⟩ K5 hK5
 try simp only [go_sem]
 refine awp_seq_k fun K6 hK6 => ?_
 refine awp_seq_k fun K7 hK7 => ?_
 refine awp_regionL (by rfl) ?_
 try simp only [go_sem]
 refine hK7 _ _ _ (awp_keep [4, 6, 7, 8, 21] ?_)
 try clear hK7 K7
 try simp only [go_sem]
 refine awp_cond (by rfl) (fun hc0 => ?_) (fun hc0 => ?_)
 ·
  skip
  try simp only [decide_eq_true_eq, decide_eq_false_iff_not, Bool.not_eq_true', Bool.not_eq_false', Bool.and_eq_true, Bool.or_eq_true, Bool.or_eq_false_iff, Bool.and_eq_false_imp] at hc0
  have hne : ¬ r = [] := by intro hh; subst hh; simp at hc0
  obtain ⟨mp, rfl, hok, hq2⟩ := readL_cons hne hq
  have hsl := splitB_le r
  simp only [stepOk, Bool.and_eq_true, Bool.not_eq_true', decide_eq_true_eq, decide_eq_false_iff_not] at hok
  obtain ⟨⟨⟨hs, hnk⟩, hcb⟩, hkx⟩ := hok
  refine awp_skip ?_
  try simp only [go_sem]
  refine hK6 _ _ _ (awp_keep [4, 6, 7, 8] ?_)
  try clear hK6 K6
  try simp only [go_sem]
  refine awp_block ?_
  refine awp_seq_k fun K8 hK8 => ?_
  refine awp_regionL (by rfl) ?_
  try simp only [go_sem]
  refine acall_pa (attrs_split_ok r (by omega)) ?_
  try simp only [go_sem]
  refine hK8 _ _ _ (awp_keep [4, 6, 7, 9, 10, 11] ?_)
  try clear hK8 K8
  try simp only [go_sem]
  refine awp_seq_k fun K9 hK9 => ?_
  refine awp_seq_k fun K10 hK10 => ?_
  refine awp_drawP (by kernel_rfl) (by rfl) (by kernel_rfl) (fun _ => true) (.early 0 (.early 1 (.early 2 (.early 3 (.early 4 (.early 5 (.early 6 (.early 7 (.early 8 (.late 9 (.early 10 .done))))))))))) (by kernel_rfl) (fun _ _ _ _ => by simp only [go_sem, not_false_eq_true]) ?_
  try simp only [go_sem]
  refine gcall_p ?_ (by rfl) (by simp only [go_sem]; rfl) (fun hg => ⟨Contains_int_ok g.kinds (splitO r).kind, by simp only [hg, go_sem]⟩) ?_
  ·
   rfl
  try simp only [go_sem]
  repeat (refine Must.au ?_; try simp only [go_sem])
  repeat (refine Must.au ?_; try simp only [go_sem])
  refine hK10 _ _ _ (awp_keep [4, 6, 7, 9, 10, 38] ?_)
  try clear hK10 K10
  try simp only [go_sem]
  refine awp_cond (by rfl) (fun hc1 => ?_) (fun hc1 => ?_)
  ·
   skip
   simp [hs, hnk] at hc1
  ·
   skip
   try simp only [decide_eq_true_eq, decide_eq_false_iff_not, Bool.not_eq_true', Bool.not_eq_false', Bool.and_eq_true, Bool.or_eq_true, Bool.or_eq_false_iff, Bool.and_eq_false_imp] at hc1
   refine awp_skip ?_
   try simp only [go_sem]
   refine hK9 _ _ _ (awp_keep [4, 6, 7, 9, 10] ?_)
   try clear hK9 K9
   try simp only [go_sem]
   refine awp_seq_k fun K11 hK11 => ?_
   refine awp_regionL (by rfl) ?_
   try simp only [go_sem]
   refine hK11 _ _ _ (awp_keep [4, 6, 7, 8, 9] ?_)
   try clear hK11 K11
   try simp only [go_sem]
   refine awp_seq_k fun K12 hK12 => ?_
   refine awp_drawP (by kernel_rfl) (by rfl) (by kernel_rfl) (fun _ => true) (.early 0 (.early 1 (.early 2 (.early 3 (.early 4 (.early 5 (.early 6 (.last 7 (.late 8 (.early 9 (.early 10 (.late 11 .done)))))))))))) (by kernel_rfl) (fun _ _ _ _ => by simp only [go_sem, not_false_eq_true]) ?_
   try simp only [go_sem]
   refine app_row rfl rfl rfl (by first | rfl | (simp only [go_sem, List.length_append, List.length_map, bl_length]; done) | (simp; done) | (simp; omega)) rfl (.inl rfl) (by decide) tby3 (by (try simp only [go_sem, List.length_append, List.length_map, bl_length]); first | omega | (simp; done) | (simp; omega)) (by (try simp only [go_sem, List.length_append, List.length_map, bl_length]); first | omega | (simp; done) | (simp; omega)) ?_
   try simp only [go_sem]
   refine hK12 _ _ _ (awp_keep [4, 6, 7, 8, 9] ?_)
   try clear hK12 K12
   try simp only [go_sem]
   refine awp_seq_k fun K13 hK13 => ?_
   refine awp_regionL (by rfl) ?_
   try simp only [go_sem]
   refine hK13 _ _ _ (awp_keep [4, 6, 7, 8, 9, 12] ?_)
   try clear hK13 K13
   try simp only [go_sem]
   refine awp_seq_k fun K14 hK14 => ?_
   refine awp_seq_k fun K15 hK15 => ?_
   refine awp_regionL (by rfl) ?_
   try simp only [go_sem]
   refine acall_pa (attrs_Known_ok (splitO r).kind) ?_
   try simp only [go_sem]
   refine hK15 _ _ _ (awp_keep [4, 6, 7, 8, 9, 12, 56] ?_)
   try clear hK15 K15
   try simp only [go_sem]
   refine awp_cond (by rfl) (fun hc2 => ?_) (fun hc2 => ?_)
   ·
    skip
    try simp only [decide_eq_true_eq, decide_eq_false_iff_not, Bool.not_eq_true', Bool.not_eq_false', Bool.and_eq_true, Bool.or_eq_true, Bool.or_eq_false_iff, Bool.and_eq_false_imp] at hc2
    have hkn0 : ¬ knownS (splitO r).kind = true := by rw [hc2]; exact Bool.false_ne_true
    rw [if_neg hkn0] at hkx
    simp only [Bool.and_eq_true, decide_eq_true_eq] at hkx
    obtain ⟨hall, hcd⟩ := hkx
    have hst : stepR g r = unkG (addK g (splitO r).kind) (splitO r) := if_neg hkn0
    refine awp_regionL (by rfl) ?_
    try simp only [go_sem]
    refine acall_xa (unknown_ok (addK g (splitO r).kind) (splitO r) hall) [2] [0, 1, 2] ?_
    try simp only [go_sem]
    refine hK14 _ _ _ (awp_keep [4, 6, 7, 8, 12] ?_)
    try simp only [go_sem]
    refine awp_seq_k fun K16 hK16 => ?_
    refine awp_regionL (by rfl) ?_
    try simp only [go_sem]
    refine hK16 _ _ _ (awp_keep [4, 6, 7, 8, 12, 71] ?_)
    try clear hK16 K16
    try simp only [go_sem]
    refine awp_cond (by rfl) (fun hc4 => ?_) (fun hc4 => ?_)
    ·
     skip
     (simp only [Bool.not_eq_true', decide_eq_false_iff_not] at hc4; exact absurd hcd hc4)
    ·
     skip
     try simp only [decide_eq_true_eq, decide_eq_false_iff_not, Bool.not_eq_true', Bool.not_eq_false', Bool.and_eq_true, Bool.or_eq_true, Bool.or_eq_false_iff, Bool.and_eq_false_imp] at hc4
     refine awp_skip ?_
     try simp only [go_sem]
     have hkl : (stepR g r).kinds.length + mp = b.length + 1 := by rw [stepR_kinds]; simp; omega
     refine hK5 _ _ _ ⟨⟨mp, stepR g r, splitB r⟩, [0, 1, 2], ?_, ?_⟩
     ·
      (try simp (disch := omega) only [w_i64, w_u8, w_u16, w_u32, w_u64]); simp only [Lss, go_sem, hst]
      (repeat' apply And.intro) <;> first | rfl | omega | trivial | (simp; done)
     ·
      exact ⟨⟨hq2, Nat.le_trans hsl hr, hkl⟩, Nat.lt_succ_self mp⟩
   ·
    skip
    try simp only [decide_eq_true_eq, decide_eq_false_iff_not, Bool.not_eq_true', Bool.not_eq_false', Bool.and_eq_true, Bool.or_eq_true, Bool.or_eq_false_iff, Bool.and_eq_false_imp] at hc2
    have hkn : knownS (splitO r).kind = true := hc2
    rw [if_pos hkn] at hkx
    simp only [Bool.and_eq_true, decide_eq_true_eq] at hkx
    obtain ⟨hfx, hcd⟩ := hkx
    have hcv : (addK g (splitO r).kind).a.comms.length + (splitO r).value.length ≤ 1000000 := hcb
    have hst : stepR g r = knG (addK g (splitO r).kind) (splitO r) := if_pos hkn
    refine awp_seq_k fun K17 hK17 => ?_
    refine awp_regionL (by rfl) ?_
    try simp only [go_sem]
    refine acall_xa (form_known (addK g (splitO r).kind) (splitO r) hkn) [2] [0, 1, 2] ?_
    try simp only [go_sem]
    refine hK17 _ _ _ (awp_keep [4, 6, 7, 8, 9, 12] ?_)
    try clear hK17 K17
    try simp only [go_sem]
    refine awp_seq_k fun K18 hK18 => ?_
    refine awp_regionL (by rfl) ?_
    try simp only [go_sem]
    refine hK18 _ _ _ (awp_keep [4, 6, 7, 8, 9, 12, 65] ?_)
    try clear hK18 K18
    try simp only [go_sem]
    refine awp_cond (by rfl) (fun hc3 => ?_) (fun hc3 => ?_)
    ·
     skip
     try simp only [decide_eq_true_eq, decide_eq_false_iff_not, Bool.not_eq_true', Bool.not_eq_false', Bool.and_eq_true, Bool.or_eq_true, Bool.or_eq_false_iff, Bool.and_eq_false_imp] at hc3
     refine awp_regionL (by rfl) ?_
     try simp only [go_sem]
     refine acall_xa (known_ok (addK g (splitO r).kind) (splitO r) hcv) [2] [0, 1, 2] ?_
     try simp only [go_sem]
     refine hK14 _ _ _ (awp_keep [4, 6, 7, 8, 12] ?_)
     try simp only [go_sem]
     refine awp_seq_k fun K19 hK19 => ?_
     refine awp_regionL (by rfl) ?_
     try simp only [go_sem]
     refine hK19 _ _ _ (awp_keep [4, 6, 7, 8, 12, 71] ?_)
     try clear hK19 K19
     try simp only [go_sem]
     refine awp_cond (by rfl) (fun hc4 => ?_) (fun hc4 => ?_)
     ·
      skip
      (simp only [Bool.not_eq_true', decide_eq_false_iff_not] at hc4; exact absurd hcd hc4)
     ·
      skip
      try simp only [decide_eq_true_eq, decide_eq_false_iff_not, Bool.not_eq_true', Bool.not_eq_false', Bool.and_eq_true, Bool.or_eq_true, Bool.or_eq_false_iff, Bool.and_eq_false_imp] at hc4
      refine awp_skip ?_
      try simp only [go_sem]
      have hkl : (stepR g r).kinds.length + mp = b.length + 1 := by rw [stepR_kinds]; simp; omega
      refine hK5 _ _ _ ⟨⟨mp, stepR g r, splitB r⟩, [0, 1, 2], ?_, ?_⟩
      ·
       (try simp (disch := omega) only [w_i64, w_u8, w_u16, w_u32, w_u64]); simp only [Lss, go_sem, hst]
       (repeat' apply And.intro) <;> first | rfl | omega | trivial | (simp; done)
      ·
       exact ⟨⟨hq2, Nat.le_trans hsl hr, hkl⟩, Nat.lt_succ_self mp⟩
    ·
     skip
     (simp only [decide_eq_false_iff_not] at hc3; exact absurd hfx hc3)
 ·
  skip
  try simp only [decide_eq_true_eq, decide_eq_false_iff_not, Bool.not_eq_true', Bool.not_eq_false', Bool.and_eq_true, Bool.or_eq_true, Bool.or_eq_false_iff, Bool.and_eq_false_imp] at hc0
  obtain rfl : r = [] := by cases r with | nil => rfl | cons a r => exfalso; apply hc0; simp only [List.length_cons]; omega
  obtain rfl : g2 = g := (readL_nil hq).symm
  refine awp_exit ?_
  try simp only [go_sem]
  refine hK4 _ _ _ (awp_keep [4, 6, 7] ?_)
  try clear hK4 K4
  try simp only [go_sem]
  refine awp_seq_k fun K20 hK20 => ?_
  refine awp_regionL (by rfl) ?_
  try simp only [go_sem]
  refine acall_xa (end_ok g2 h1 h2 hn) [2] [0, 1, 2] ?_
  try simp only [go_sem]
  refine hK20 _ _ _ (awp_keep [4, 6, 7] ?_)
  try clear hK20 K20
  try simp only [go_sem]
  refine awp_seq_k fun K21 hK21 => ?_
  refine awp_drawP (by kernel_rfl) (by rfl) (by kernel_rfl) (fun i => decide (i ≠ 0)) (.early 0 (.early 1 (.early 2 (.early 3 (.early 4 (.early 5 (.early 6 (.early 7 (.early 8 (.last 9 (.early 10 (.late 11 .done)))))))))))) (by kernel_rfl) (fun _ _ _ _ => by simp only [go_sem, not_false_eq_true]) ?_
  try simp only [go_sem]
  refine ⟨by simp, ?_⟩
  refine hK21 _ _ _ (awp_keep [4, 5, 6] ?_)
  try clear hK21 K21
  try simp only [go_sem]
  refine awp_ret ?_
  try simp only [go_sem]
  try clear hK21 K21
  try clear hK20 K20
  try clear hK19 K19
  try clear hK18 K18
  try clear hK17 K17
  try clear hK16 K16
  try clear hK15 K15
  try clear hK14 K14
  try clear hK13 K13
  try clear hK12 K12
  try clear hK11 K11
  try clear hK10 K10
  try clear hK9 K9
  try clear hK8 K8
  try clear hK7 K7
  try clear hK6 K6
  try clear hK5 K5
  try clear hK4 K4
  try clear hK3 K3
  try clear hK2 K2
  try clear hK1 K1
  refine ret_p (by simp) (by rfl) ?_ (by rfl)
  (try simp (disch := omega) only [w_i64, w_u8, w_u16, w_u32, w_u64]); simp only [go_sem] <;> ((repeat' apply And.intro) <;> first | rfl | (simp; done))
end

end Go.Abs
