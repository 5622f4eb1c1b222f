/-
  WHAT WAS PUT IS READ, 1: numbers, and one attribute.
-/
import Derived.Test.YtajeoodipplmlaaDoorT25
import Derived.Test.YtajeoodipplmlaaDoorT17
set_option linter.all false
namespace Go.Abs
open Go Go.Proofs
theorem or_low (x c : Int) (hx : 0 ≤ x) (hs : x * 256 + c < 4294967296) (hc : 0 ≤ c ∧ c < 256) : bits .or .u32 (IntKind.u32.wrap (x * 2 ^ 8)) (IntKind.u32.wrap c) = x * 256 + c := by
  obtain ⟨a, rfl⟩ := Int.eq_ofNat_of_zero_le hx
  obtain ⟨d, rfl⟩ := Int.eq_ofNat_of_zero_le hc.1
  have e1 : IntKind.u32.wrap ((a : Int) * 2 ^ 8) = ((a * 256 : Nat) : Int) := by rw [IntKind.wrap_u32]; omega
  have e2 : IntKind.u32.wrap (d : Int) = ((d : Nat) : Int) := by rw [IntKind.wrap_u32]; omega
  rw [e1, e2]
  have h1 : (BitVec.ofInt 32 ((a * 256 : Nat) : Int)).toNat = a * 256 := by
    rw [BitVec.ofInt_natCast, BitVec.toNat_ofNat]; exact Nat.mod_eq_of_lt (by omega)
  have h2 : (BitVec.ofInt 32 (d : Int)).toNat = d := by
    rw [BitVec.ofInt_natCast, BitVec.toNat_ofNat]; exact Nat.mod_eq_of_lt (by omega)
  show IntKind.u32.wrap ((BitVec.ofInt 32 ((a * 256 : Nat) : Int) ||| BitVec.ofInt 32 (d : Int)).toNat : Int) = _
  rw [BitVec.toNat_or, h1, h2]
  have h3 : a * 256 ||| d = a * 256 + d := by
    have := Nat.shiftLeft_add_eq_or_of_lt (i := 8) (b := d) (by omega) a
    rw [Nat.shiftLeft_eq] at this
    exact this.symm
  rw [h3, IntKind.wrap_u32]
  omega
theorem be_1 {a : Int} (ha : 0 ≤ a ∧ a < 256) : be [a] = a := by
  have := or_low 0 a (by omega) (by omega) ha
  simp only [be, List.foldl_cons, List.foldl_nil]
  rw [this]; omega
theorem be_2 {a b : Int} (ha : 0 ≤ a ∧ a < 256) (hb : 0 ≤ b ∧ b < 256) : be [a, b] = a * 256 + b := by
  have h1 := or_low 0 a (by omega) (by omega) ha
  have h2 := or_low (0 * 256 + a) b (by omega) (by omega) hb
  simp only [be, List.foldl_cons, List.foldl_nil]
  rw [h1, h2]; omega
theorem be_4 {a b c d : Int} (ha : 0 ≤ a ∧ a < 256) (hb : 0 ≤ b ∧ b < 256) (hc : 0 ≤ c ∧ c < 256) (hd : 0 ≤ d ∧ d < 256) : be [a, b, c, d] = ((a * 256 + b) * 256 + c) * 256 + d := by
  have h1 := or_low 0 a (by omega) (by omega) ha
  have h2 := or_low (0 * 256 + a) b (by omega) (by omega) hb
  have h3 := or_low ((0 * 256 + a) * 256 + b) c (by omega) (by omega) hc
  have h4 := or_low (((0 * 256 + a) * 256 + b) * 256 + c) d (by omega) (by omega) hd
  simp only [be, List.foldl_cons, List.foldl_nil]
  rw [h1, h2, h3, h4]; omega
theorem be_put16 (n : Int) : be (put16S n) = n % 65536 := by
  rw [put16S, be_2 (by omega) (by omega)]; omega
theorem be_put32 {n : Int} (h : u32r n) : be (put32S n) = n := by
  unfold u32r at h
  simp only [put32S, put16S, List.cons_append, List.nil_append]
  rw [be_4 (by omega) (by omega) (by omega) (by omega)]; omega
/-- What is taken from bytes that begin so. -/
theorem take_app (v rest : List Int) (n : Int) (hn : n = v.length) : Rd.take ⟨v ++ rest, false⟩ n = (v, ⟨rest, false⟩) := by
  unfold Rd.take
  rw [if_neg (by simp), if_neg (by simp; omega)]
  have : n.toNat = v.length := by omega
  simp [this]
theorem num_app (v rest : List Int) (n : Int) (hn : n = v.length) : Rd.num ⟨v ++ rest, false⟩ n = be v := by
  rw [Rd.num, take_app v rest n hn]
theorem u1_ok {n : Int} (h : 0 ≤ n ∧ n < 256) : u1 [n] = n := by
  have := num_app [n] [] 1 rfl
  rw [List.append_nil] at this
  rw [u1, this, be_1 h]; exact w_i64 (by omega) (by omega)
theorem u4_app {n : Int} (h : u32r n) (rest : List Int) : u4 (put32S n ++ rest) = n := by
  rw [u4, num_app _ _ 4 rfl, be_put32 h]
theorem u4_ok {n : Int} (h : u32r n) : u4 (put32S n) = n := by
  have := u4_app h []
  rwa [List.append_nil] at this
def flg (f : Int) (v : List Int) : Int := if 255 < (v.length : Int) then f + 16 else f
/-- One attribute, taken from bytes. -/
theorem sp_big {f k : Int} (v rest : List Int) (hf : flagOk f) (hk : 0 ≤ k ∧ k < 256) (hl : (v.length : Int) < 65536) (hb : 255 < (v.length : Int)) :
    spR4 (attrS f k v ++ rest) = ⟨rest, false⟩ ∧ spF (attrS f k v ++ rest) = f + 16 ∧ spK (attrS f k v ++ rest) = k ∧ spV (attrS f k v ++ rest) = v := by
  have hfb : 0 ≤ f ∧ f ≤ 224 := by rcases hf with rfl | rfl | rfl | rfl <;> decide
  have hk8 : IntKind.u8.wrap k = k := by rw [IntKind.wrap_u8]; omega
  have e0 : attrS f k v ++ rest = [f + 16] ++ ([k] ++ (put16S v.length ++ (v ++ rest))) := by
    rw [attrS, hdS_big hb, hk8]; simp
  rw [e0]
  have t1 := take_app [f + 16] ([k] ++ (put16S v.length ++ (v ++ rest))) 1 rfl
  have t2 := take_app [k] (put16S v.length ++ (v ++ rest)) 1 rfl
  have t3 := take_app (put16S v.length) (v ++ rest) 2 rfl
  have t4 := take_app v rest v.length rfl
  have n1 : spF ([f + 16] ++ ([k] ++ (put16S v.length ++ (v ++ rest)))) = f + 16 := by
    rw [spF, Rd.num, t1, be_1 (by omega)]; exact w_i64 (by omega) (by omega)
  have r1 : spR1 ([f + 16] ++ ([k] ++ (put16S v.length ++ (v ++ rest)))) = ⟨[k] ++ (put16S v.length ++ (v ++ rest)), false⟩ := by rw [spR1, t1]
  have n2 : spK ([f + 16] ++ ([k] ++ (put16S v.length ++ (v ++ rest)))) = k := by
    rw [spK, r1, Rd.num, t2, be_1 (by omega)]; exact w_i64 (by omega) (by omega)
  have r2 : spR2 ([f + 16] ++ ([k] ++ (put16S v.length ++ (v ++ rest)))) = ⟨put16S v.length ++ (v ++ rest), false⟩ := by rw [spR2, r1, t2]
  have hx : spX ([f + 16] ++ ([k] ++ (put16S v.length ++ (v ++ rest)))) := by
    unfold spX; rw [n1]; rcases hf with rfl | rfl | rfl | rfl <;> decide
  have n3 : spN ([f + 16] ++ ([k] ++ (put16S v.length ++ (v ++ rest)))) = v.length := by
    rw [spN, if_pos hx, r2, Rd.num, t3, be_put16, w_i64 (by omega) (by omega)]; omega
  have r3 : spR3 ([f + 16] ++ ([k] ++ (put16S v.length ++ (v ++ rest)))) = ⟨v ++ rest, false⟩ := by rw [spR3, if_pos hx, r2, t3]
  exact ⟨by rw [spR4, r3, n3, t4], n1, n2, by rw [spV, r3, n3, t4]⟩
theorem sp_small {f k : Int} (v rest : List Int) (hf : flagOk f) (hk : 0 ≤ k ∧ k < 256) (hb : ¬ 255 < (v.length : Int)) :
    spR4 (attrS f k v ++ rest) = ⟨rest, false⟩ ∧ spF (attrS f k v ++ rest) = f ∧ spK (attrS f k v ++ rest) = k ∧ spV (attrS f k v ++ rest) = v := by
  have hfb : 0 ≤ f ∧ f ≤ 224 := by rcases hf with rfl | rfl | rfl | rfl <;> decide
  have hk8 : IntKind.u8.wrap k = k := by rw [IntKind.wrap_u8]; omega
  have e0 : attrS f k v ++ rest = [f] ++ ([k] ++ ([(v.length : Int)] ++ (v ++ rest))) := by
    rw [attrS, hdS_small hb, hk8]; simp
  rw [e0]
  have t1 := take_app [f] ([k] ++ ([(v.length : Int)] ++ (v ++ rest))) 1 rfl
  have t2 := take_app [k] ([(v.length : Int)] ++ (v ++ rest)) 1 rfl
  have t3 := take_app [(v.length : Int)] (v ++ rest) 1 rfl
  have t4 := take_app v rest v.length rfl
  have n1 : spF ([f] ++ ([k] ++ ([(v.length : Int)] ++ (v ++ rest)))) = f := by
    rw [spF, Rd.num, t1, be_1 (by omega)]; exact w_i64 (by omega) (by omega)
  have r1 : spR1 ([f] ++ ([k] ++ ([(v.length : Int)] ++ (v ++ rest)))) = ⟨[k] ++ ([(v.length : Int)] ++ (v ++ rest)), false⟩ := by rw [spR1, t1]
  have n2 : spK ([f] ++ ([k] ++ ([(v.length : Int)] ++ (v ++ rest)))) = k := by
    rw [spK, r1, Rd.num, t2, be_1 (by omega)]; exact w_i64 (by omega) (by omega)
  have r2 : spR2 ([f] ++ ([k] ++ ([(v.length : Int)] ++ (v ++ rest)))) = ⟨[(v.length : Int)] ++ (v ++ rest), false⟩ := by rw [spR2, r1, t2]
  have hx : ¬ spX ([f] ++ ([k] ++ ([(v.length : Int)] ++ (v ++ rest)))) := by
    unfold spX; rw [n1]; rcases hf with rfl | rfl | rfl | rfl <;> decide
  have n3 : spN ([f] ++ ([k] ++ ([(v.length : Int)] ++ (v ++ rest)))) = v.length := by
    rw [spN, if_neg hx, r2, Rd.num, t3, be_1 (by omega), w_i64 (by omega) (by omega)]
  have r3 : spR3 ([f] ++ ([k] ++ ([(v.length : Int)] ++ (v ++ rest)))) = ⟨v ++ rest, false⟩ := by rw [spR3, if_neg hx, r2, t3]
  exact ⟨by rw [spR4, r3, n3, t4], n1, n2, by rw [spV, r3, n3, t4]⟩
theorem sp_attr {f k : Int} (v rest : List Int) (hf : flagOk f) (hk : 0 ≤ k ∧ k < 256) (hl : (v.length : Int) < 65536) :
    spR4 (attrS f k v ++ rest) = ⟨rest, false⟩ ∧ splitO (attrS f k v ++ rest) = ⟨flg f v, k, attrS f k v, v⟩ ∧ splitB (attrS f k v ++ rest) = rest := by
  have key : spR4 (attrS f k v ++ rest) = ⟨rest, false⟩ ∧ spF (attrS f k v ++ rest) = flg f v ∧ spK (attrS f k v ++ rest) = k ∧ spV (attrS f k v ++ rest) = v := by
    unfold flg
    split
    · rename_i hb; exact sp_big v rest hf hk hl hb
    · rename_i hb; exact sp_small v rest hf hk hb
  obtain ⟨h1, h2, h3, h4⟩ := key
  have hlen : (attrS f k v ++ rest).length - rest.length = (attrS f k v).length := by simp
  refine ⟨h1, ?_, ?_⟩
  · rw [splitO, h1]
    simp only [Bool.false_eq_true, if_false]
    rw [h2, h3, h4, hlen, List.take_left]
  · rw [splitB, h1]
    simp only [Bool.false_eq_true, if_false]
    rw [hlen, List.drop_left]
/-- A number as it comes back. -/
def nar (w : Bool) (n : Int) : Int := if w = true then n else if 65535 < n then 23456 else n
def narSeg (w : Bool) (s : Seg) : Seg := ⟨s.kind, s.nums.map (nar w)⟩
def narP (w : Bool) (l : List Seg) : List Seg := l.map (narSeg w)
theorem nar_u32 (w : Bool) {n : Int} (h : u32r n) : u32r (nar w n) := by
  unfold u32r at *; unfold nar; split
  · exact h
  · split
    · omega
    · exact h
theorem one_num (w : Bool) {n : Int} (h : u32r n) (rest : List Int) : rdNum w ⟨numS w n ++ rest, false⟩ = nar w n ∧ rdAft w ⟨numS w n ++ rest, false⟩ = ⟨rest, false⟩ := by
  cases w with
  | true =>
    have t := take_app (put32S n) rest 4 rfl
    refine ⟨?_, ?_⟩
    · show Rd.num ⟨put32S n ++ rest, false⟩ 4 = n
      rw [num_app _ _ 4 rfl, be_put32 h]
    · show (Rd.take ⟨put32S n ++ rest, false⟩ 4).2 = _
      rw [t]
  | false =>
    unfold u32r at h
    by_cases hb : 65535 < n
    · have e : numS false n = put16S 23456 := by simp [numS, hb]
      have e2 : nar false n = 23456 := by simp [nar, hb]
      have t := take_app (put16S 23456) rest 2 rfl
      rw [e, e2]
      refine ⟨?_, ?_⟩
      · show IntKind.u32.wrap (IntKind.i64.wrap (Rd.num ⟨put16S 23456 ++ rest, false⟩ 2)) = 23456
        rw [num_app _ _ 2 rfl, be_put16]; decide
      · show (Rd.take ⟨put16S 23456 ++ rest, false⟩ 2).2 = _
        rw [t]
    · have e : numS false n = put16S n := by simp [numS, hb]
      have e2 : nar false n = n := by simp [nar, hb]
      have t := take_app (put16S n) rest 2 rfl
      rw [e, e2]
      refine ⟨?_, ?_⟩
      · show IntKind.u32.wrap (IntKind.i64.wrap (Rd.num ⟨put16S n ++ rest, false⟩ 2)) = n
        rw [num_app _ _ 2 rfl, be_put16, w_i64 (by omega) (by omega), IntKind.wrap_u32]; omega
      · show (Rd.take ⟨put16S n ++ rest, false⟩ 2).2 = _
        rw [t]
theorem rdNums_ok (w : Bool) : ∀ (ns l rest : List Int), (∀ n ∈ ns, u32r n) → rdNums w ns.length l ⟨ns.flatMap (numS w) ++ rest, false⟩ = (l ++ ns.map (nar w), ⟨rest, false⟩)
  | [], l, rest, _ => by simp [rdNums]
  | n :: ns, l, rest, h => by
    have h1 := one_num w (h n List.mem_cons_self) (ns.flatMap (numS w) ++ rest)
    have ih := rdNums_ok w ns (l ++ [nar w n]) rest fun m hm => h m (List.mem_cons_of_mem _ hm)
    simp only [List.length_cons, List.flatMap_cons, List.append_assoc, rdNums, Bool.false_eq_true, if_false]
    rw [h1.1, h1.2, ih]
    simp
theorem rdSegs_ok (w : Bool) : ∀ (l : List Seg) (m : Nat) (out : List Seg), l.length ≤ m → (∀ s ∈ l, segOk s = true ∧ ∀ n ∈ s.nums, u32r n) → rdSegs w m out ⟨pathS w l, false⟩ = (out ++ narP w l, ⟨[], false⟩)
  | [], m, out, _, _ => by
    rw [rdSegs_end (.inr (by simp [Rd.left, pathS]))]
    simp [narP, pathS]
  | s :: l, 0, out, hm, _ => by simp at hm
  | s :: l, m + 1, out, hm, h => by
    obtain ⟨hs, hn⟩ := h s List.mem_cons_self
    have ih := rdSegs_ok w l m (out ++ [narSeg w s]) (by simpa using hm) fun t ht => h t (List.mem_cons_of_mem _ ht)
    obtain ⟨⟨hk, h0⟩, h64⟩ := (segOk_iff s).1 hs
    have hk8 : IntKind.u8.wrap s.kind = s.kind := by rw [IntKind.wrap_u8]; rcases hk with h | h <;> rw [h] <;> rfl
    have hn8 : IntKind.u8.wrap (s.nums.length : Int) = s.nums.length := by rw [IntKind.wrap_u8]; omega
    have hkr : 0 ≤ s.kind ∧ s.kind < 256 := by omega
    have e0 : pathS w (s :: l) = [s.kind] ++ ([(s.nums.length : Int)] ++ (s.nums.flatMap (numS w) ++ pathS w l)) := by
      simp only [pathS, List.flatMap_cons, segS, hk8, hn8]; simp
    rw [e0]
    have t1 := take_app [s.kind] ([(s.nums.length : Int)] ++ (s.nums.flatMap (numS w) ++ pathS w l)) 1 rfl
    have t2 := take_app [(s.nums.length : Int)] (s.nums.flatMap (numS w) ++ pathS w l) 1 rfl
    have hl : ¬ Rd.left ⟨[s.kind] ++ ([(s.nums.length : Int)] ++ (s.nums.flatMap (numS w) ++ pathS w l)), false⟩ ≤ 0 := by simp [Rd.left]; omega
    have k1 : sgK ⟨[s.kind] ++ ([(s.nums.length : Int)] ++ (s.nums.flatMap (numS w) ++ pathS w l)), false⟩ = s.kind := by
      rw [sgK, Rd.num, t1, be_1 hkr]; exact w_i64 (by omega) (by omega)
    have k2 : sgN ⟨[s.kind] ++ ([(s.nums.length : Int)] ++ (s.nums.flatMap (numS w) ++ pathS w l)), false⟩ = s.nums.length := by
      rw [sgN, t1, Rd.num, t2, be_1 (by omega)]; exact w_i64 (by omega) (by omega)
    have k3 : sgR ⟨[s.kind] ++ ([(s.nums.length : Int)] ++ (s.nums.flatMap (numS w) ++ pathS w l)), false⟩ = ⟨s.nums.flatMap (numS w) ++ pathS w l, false⟩ := by rw [sgR, t1, t2]
    rw [rdSegs_step hl, k1, k2, k3, show ((s.nums.length : Int)).toNat = s.nums.length by omega, rdNums_ok w s.nums [] (pathS w l) hn]
    simp only [List.nil_append]
    rw [show (⟨s.kind, s.nums.map (nar w)⟩ : Seg) = narSeg w s from rfl, ih]
    simp [narP]
theorem narSeg_ok (w : Bool) (s : Seg) : segOk (narSeg w s) = segOk s := by simp [segOk, narSeg]
theorem tot_nar (w : Bool) : ∀ l : List Seg, tot (narP w l) = tot l
  | [] => rfl
  | s :: l => by
    have := tot_nar w l
    simp only [narP, List.map_cons, tot] at this ⊢
    rw [this]; simp [narSeg]
theorem pathRight_nar (w : Bool) (l : List Seg) : pathRight (narP w l) = pathRight l := by
  have h1 : (narP w l).all segOk = l.all segOk := by
    simp only [narP, List.all_map]; congr 1; funext s; exact narSeg_ok w s
  have h2 := tot_nar w l
  have h3 : (narP w l).length = l.length := by simp [narP]
  rw [pathRight, h1, h2, h3, pathRight]
theorem pathRight_all {l : List Seg} (h : pathRight l = true) : (∀ s ∈ l, segOk s = true) ∧ l.length ≤ 8 := by
  simp only [pathRight, Bool.and_eq_true, decide_eq_true_eq, List.all_eq_true] at h
  exact ⟨h.1.1, h.2⟩
theorem rdPath_ok (w : Bool) {l : List Seg} (h : pathRight l = true) (hT : ∀ s ∈ l, segT s) : rdPath w (pathS w l) = (narP w l, ⟨[], false⟩) := by
  obtain ⟨h1, h2⟩ := pathRight_all h
  have := rdSegs_ok w l 9 [] (by omega) fun s hs => ⟨h1 s hs, (hT s hs).2⟩
  simpa [rdPath] using this
theorem pathOk_ok (w : Bool) {l : List Seg} (h : pathRight l = true) (hT : ∀ s ∈ l, segT s) : pathOk w (pathS w l) = true := by
  rw [pathOk, rdPath_ok w h hT]; simp [pathRight_nar, h]
theorem rdU_ok : ∀ (cs : List Int) (m : Nat) (l : List Int), cs.length ≤ m → (∀ n ∈ cs, u32r n) → rdU m l ⟨cs.flatMap put32S, false⟩ = l ++ cs
  | [], m, l, _, _ => by rw [rdU_end (by simp [Rd.left])]; simp
  | c :: cs, 0, l, hm, _ => by simp at hm
  | c :: cs, m + 1, l, hm, h => by
    have ih := rdU_ok cs m (l ++ [c]) (by simpa using hm) fun n hn => h n (List.mem_cons_of_mem _ hn)
    have t := take_app (put32S c) (cs.flatMap put32S) 4 rfl
    have n := num_app (put32S c) (cs.flatMap put32S) 4 rfl
    have hl : ¬ Rd.left ⟨put32S c ++ cs.flatMap put32S, false⟩ ≤ 0 := by simp [Rd.left]; omega
    simp only [List.flatMap_cons, rdU, if_neg hl]
    rw [t, n, be_put32 (h c List.mem_cons_self), ih]
    simp
theorem narP_true (l : List Seg) : narP true l = l := by
  have : ∀ s : Seg, narSeg true s = s := fun s => by
    have h : s.nums.map (nar true) = s.nums := by
      have : (nar true) = id := by funext n; simp [nar]
      rw [this, List.map_id]
    simp [narSeg, h]
  have h2 : narSeg true = id := funext this
  simp [narP, h2]
theorem nar_true (n : Int) : nar true n = n := by simp [nar]
end Go.Abs
