/-
  ATTRIBUTES, 4: whether attributes may be.
-/
import Derived.Test.YtajeoodipplmlaaDoorT7
set_option linter.all false
namespace Go.Abs
open Go Go.Proofs
def rawOk (r : Raw) : Bool := !decide (r.typ < 0) && !decide (255 < r.typ) && !knownS r.typ && decide (r.flags = 224) && decide (r.data.length ≤ 64)
/-- Each type is above the one ahead. -/
def ascAt (l : List Raw) (i : Nat) : Bool := decide (i = 0) || decide ((l[i - 1]?.getD ⟨0, 0, []⟩).typ < (l[i]?.getD ⟨0, 0, []⟩).typ)
def rawAt (l : List Raw) (i : Nat) : Bool := rawOk (l[i]?.getD ⟨0, 0, []⟩) && ascAt l i
def rawsOk (l : List Raw) : Bool := (List.range l.length).all (rawAt l)
def rawsS (l : List Raw) : Bool := rawsOk l && decide (l.length ≤ 8)
theorem rawsOk_no {l : List Raw} {k : Nat} (hk : k < l.length) (h : rawAt l k = false) : rawsOk l = false := by
  rw [rawsOk, List.all_eq_false]; exact ⟨k, List.mem_range.2 hk, by simp [h]⟩
theorem rawsOk_succ {l : List Raw} {k : Nat} (h : (List.range k).all (rawAt l) = true) (h2 : rawAt l k = true) : (List.range (k + 1)).all (rawAt l) = true := by
  rw [List.range_succ, List.all_append, h]; simp [h2]
theorem rawAt_get {l : List Raw} {k : Nat} (hk : k < l.length) : rawAt l k = (rawOk l[k] && (decide (k = 0) || decide ((l[k - 1]'(by omega)).typ < l[k].typ))) := by
  have h1 : l[k]? = some l[k] := List.getElem?_eq_getElem hk
  have h2 : l[k - 1]? = some (l[k - 1]'(by omega)) := List.getElem?_eq_getElem (by omega)
  simp only [rawAt, ascAt, h1, h2, Option.getD_some]
theorem rawAt_iff {l : List Raw} {k : Nat} (hk : k < l.length) : rawAt l k = true ↔ ((¬ l[k].typ < 0 ∧ ¬ 255 < l[k].typ) ∧ knownS l[k].typ = false ∧ l[k].flags = 224 ∧ l[k].data.length ≤ 64) ∧ (k = 0 ∨ (l[k - 1]'(by omega)).typ < l[k].typ) := by
  rw [rawAt_get hk]
  simp only [rawOk, Bool.and_eq_true, Bool.or_eq_true, Bool.not_eq_true', decide_eq_true_eq, decide_eq_false_iff_not, and_assoc]

section
attribute [local go_sem] raws Raw.cells bytes
set_option maxRecDepth 20000 in
set_option maxHeartbeats 8000000 in
theorem attrs_raws_ok (l : List Raw) : ACX Go.Proofs.Tryd.prog G0 29 [.l (raws l)] [] [] (.l (.bool (rawsS l))) [] [] := by
 refine acalls_intro Go.Proofs.Tryd.func29 rfl (by kernel_rfl) Go.Proofs.Tryd.ntmps29 Go.Proofs.Tryd.results29 (by simp) rfl rfl ?_
 try simp only [go_sem]
 refine awp_len 0 rfl fun hlen => ?_
 simp only [rwl_length] at hlen
 refine awp_seq_k fun K1 hK1 => ?_
 refine awp_regionL (by rfl) ?_
 try simp only [go_sem]
 refine hK1 _ _ _ (awp_keep [0] ?_)
 try clear hK1 K1
 try simp only [go_sem]
 refine awp_seq_k fun K2 hK2 => ?_
 refine awp_seq_k fun K3 hK3 => ?_
 refine awp_regionL (by rfl) ?_
 try simp only [go_sem]
 refine hK3 _ _ _ (awp_keep [0, 5, 6, 7] ?_)
 try clear hK3 K3
 try simp only [go_sem]
 refine awp_block ?_
 refine awp_loopE (α := (Nat)) (fun (k : (Nat)) => k ≤ l.length ∧ (List.range k).all (rawAt l) = true) (fun (k : (Nat)) => l.length - k) (fun (k : (Nat)) => [(7, .l (.int .i64 (k : Int)))]) (fun (k : (Nat)) => []) (fun (k : (Nat)) => []) [0, 5, 6] 0 [] ?_ ?_ ?_
 ·
  simp only [Lss, go_sem]
  (repeat' apply And.intro) <;> first | rfl | omega | trivial | (simp; done)
 ·
  exact ⟨by omega, rfl⟩
 rintro k ⟨hk, hok⟩ K4 hK4
 try simp only [go_sem]
 refine awp_seq_k fun K5 hK5 => ?_
 refine awp_regionL (by rfl) ?_
 try simp only [go_sem]
 refine hK5 _ _ _ (awp_keep [0, 5, 6, 7, 8] ?_)
 try clear hK5 K5
 try simp only [go_sem]
 refine awp_seq_k fun K6 hK6 => ?_
 refine awp_cond (by rfl) (fun hc0 => ?_) (fun hc0 => ?_)
 ·
  skip
  try simp only [decide_eq_true_eq, decide_eq_false_iff_not, Bool.not_eq_true', Bool.not_eq_false', Bool.and_eq_true, Bool.or_eq_true, Bool.or_eq_false_iff, Bool.and_eq_false_imp] at hc0
  have hk2 : k < l.length := by omega
  refine awp_skip ?_
  try simp only [go_sem]
  refine hK6 _ _ _ (awp_keep [0, 5, 6, 7] ?_)
  try clear hK6 K6
  try simp only [go_sem]
  refine awp_seq_k fun K7 hK7 => ?_
  refine awp_block ?_
  refine awp_seq_k fun K8 hK8 => ?_
  refine awp_regionL (by rfl) ?_
  try simp only [go_sem]
  refine ix_map k rfl (by omega) ?_
  try simp only [go_sem]
  refine hK8 _ _ _ (awp_keep [0, 3, 4, 5, 6, 7] ?_)
  try clear hK8 K8
  try simp only [go_sem]
  refine awp_seq_k fun K9 hK9 => ?_
  refine awp_drawP (by kernel_rfl) (by rfl) (by kernel_rfl) (fun _ => true) (.early 0 (.early 1 (.early 2 (.early 3 (.early 4 (.early 5 (.early 6 (.early 7 (.early 8 (.early 9 (.early 10 (.late 11 (.early 12 (.early 13 (.early 14 (.early 15 (.early 16 (.early 17 (.early 18 (.early 19 (.early 20 (.early 21 (.early 22 (.early 23 (.early 24 (.early 25 (.early 26 (.early 27 (.early 28 (.early 29 (.early 30 (.early 31 (.early 32 (.early 33 (.early 34 (.early 35 (.early 36 (.early 37 (.early 38 .done))))))))))))))))))))))))))))))))))))))) (by kernel_rfl) (fun _ _ _ _ => by simp only [go_sem, not_false_eq_true]) ?_
  try simp only [go_sem]
  refine gcall_p ?_ (by rfl) (by simp only [go_sem]; rfl) (fun hg => ⟨attrs_Known_ok l[k].typ, by simp only [hg, go_sem]⟩) ?_
  ·
   rfl
  try simp only [go_sem]
  repeat (refine Must.au ?_; try simp only [go_sem])
  refine gixE (Raw.cells (l[k - 1]'(by omega))) (by rfl) (by rfl) (by simp only [go_sem]; rfl) (by simp only [go_sem]) (by decide) (fun hg => ?_) ?_
  ·
   skip
   simp only [Bool.and_eq_true, decide_eq_true_eq] at hg
   have hk0 := hg.2
   rw [w_i64 (by omega) (by omega), show ((k : Int) - 1).toNat = k - 1 by omega]
   exact ⟨by omega, by simp [rwl, Raw.cells, bytes, show k - 1 < l.length by omega]⟩
  try simp only [go_sem]
  repeat (refine Must.au ?_; try simp only [go_sem])
  repeat (refine Must.au ?_; try simp only [go_sem])
  try simp (disch := omega) only [w_i64, w_u8, w_u16, w_u32, w_u64]
  refine hK9 _ _ _ (awp_keep [0, 5, 6, 7, 50] ?_)
  try clear hK9 K9
  try simp only [go_sem]
  refine awp_cond (by rfl) (fun hc1 => ?_) (fun hc1 => ?_)
  ·
   skip
   try simp only [decide_eq_true_eq, decide_eq_false_iff_not, Bool.not_eq_true', Bool.not_eq_false', Bool.and_eq_true, Bool.or_eq_true, Bool.or_eq_false_iff, Bool.and_eq_false_imp] at hc1
   refine awp_seq_k fun K10 hK10 => ?_
   refine awp_regionL (by rfl) ?_
   try simp only [go_sem]
   refine hK10 _ _ _ (awp_keep [2] ?_)
   try clear hK10 K10
   try simp only [go_sem]
   refine awp_ret ?_
   try simp only [go_sem]
   try clear hK10 K10
   try clear hK9 K9
   try clear hK8 K8
   try clear hK7 K7
   try clear hK6 K6
   try clear hK5 K5
   try clear hK4 K4
   try clear hK3 K3
   try clear hK2 K2
   try clear hK1 K1
   have hn : rawAt l k = false := by
    rw [Bool.eq_false_iff, Ne, rawAt_iff hk2]
    cases hkn : knownS l[k].typ <;> simp only [hkn] at hc1 ⊢ <;> simp at hc1 ⊢ <;> omega
   refine ret_p (by simp) (by rfl) ?_ (by rfl)
   (try simp (disch := omega) only [w_i64, w_u8, w_u16, w_u32, w_u64]); simp only [go_sem] <;> (simp [rawsS, rawsOk_no hk2 hn])
  ·
   skip
   try simp only [decide_eq_true_eq, decide_eq_false_iff_not, Bool.not_eq_true', Bool.not_eq_false', Bool.and_eq_true, Bool.or_eq_true, Bool.or_eq_false_iff, Bool.and_eq_false_imp] at hc1
   refine awp_skip ?_
   try simp only [go_sem]
   refine hK7 _ _ _ (awp_keep [0, 5, 6, 7] ?_)
   try clear hK7 K7
   try simp only [go_sem]
   refine awp_regionL (by rfl) ?_
   try simp only [go_sem]
   try simp (disch := omega) only [w_i64, w_u8, w_u16, w_u32, w_u64]
   refine hK4 _ _ _ ⟨k + 1, [], ?_, ?_⟩
   ·
    (try simp (disch := omega) only [w_i64, w_u8, w_u16, w_u32, w_u64]); simp only [Lss, go_sem]
    (repeat' apply And.intro) <;> first | rfl | omega | trivial | (simp; done)
   ·
    exact ⟨⟨by omega, rawsOk_succ hok ((rawAt_iff hk2).2 (by cases hkn : knownS l[k].typ <;> simp only [hkn] at hc1 ⊢ <;> simp at hc1 ⊢ <;> omega))⟩, by omega⟩
 ·
  skip
  try simp only [decide_eq_true_eq, decide_eq_false_iff_not, Bool.not_eq_true', Bool.not_eq_false', Bool.and_eq_true, Bool.or_eq_true, Bool.or_eq_false_iff, Bool.and_eq_false_imp] at hc0
  obtain rfl : k = l.length := by omega
  refine awp_exit ?_
  try simp only [go_sem]
  refine hK2 _ _ _ (awp_keep [0] ?_)
  try clear hK2 K2
  try simp only [go_sem]
  refine awp_seq_k fun K11 hK11 => ?_
  refine awp_regionL (by rfl) ?_
  try simp only [go_sem]
  refine hK11 _ _ _ (awp_keep [2] ?_)
  try clear hK11 K11
  try simp only [go_sem]
  refine awp_ret ?_
  try simp only [go_sem]
  try clear hK11 K11
  try clear hK10 K10
  try clear hK9 K9
  try clear hK8 K8
  try clear hK7 K7
  try clear hK6 K6
  try clear hK5 K5
  try clear hK4 K4
  try clear hK3 K3
  try clear hK2 K2
  try clear hK1 K1
  refine ret_p (by simp) (by rfl) ?_ (by rfl)
  (try simp (disch := omega) only [w_i64, w_u8, w_u16, w_u32, w_u64]); simp only [go_sem] <;> (simp only [rawsS, rawsOk, hok, Bool.true_and]; rw [Bool.eq_iff_iff]; simp only [decide_eq_true_eq]; omega)
end

end Go.Abs
