/-
  WHAT THE ARGUMENTS' TYPES ALLOW: attributes, paths, lists of numbers and bytes.
-/
import Derived.Test.YtajeoodipplmlaaDoorT5
import Derived.Test.YtajeoodipplmlaaDoorT13
import Derived.Test.YtajeoodipplmlaaDoorAbs23
set_option linter.all false
namespace Go.Abs
open Go Go.Proofs
def segT (s : Seg) : Prop := i64r s.kind ∧ ∀ n ∈ s.nums, u32r n
def rawT (r : Raw) : Prop := i64r r.flags ∧ i64r r.typ ∧ isB r.data
structure AttrsT (a : Attrs) : Prop where
  origin : i64r a.origin
  path : ∀ s ∈ a.path, segT s
  next : u32r a.next
  med : i64r a.med
  pref : i64r a.pref
  aggrAS : u32r a.aggrAS
  aggrAddr : u32r a.aggrAddr
  comms : ∀ n ∈ a.comms, u32r n
  raws : ∀ r ∈ a.raws, rawT r
theorem ty_int {xs : List LV} (h : Ty Go.Proofs.Tryd.prog 3 xs) : ∃ n, xs = [.int .i64 n] ∧ i64r n := Ty.int_inv Go.Proofs.Tryd.underlying3 h
theorem ty_u32 {xs : List LV} (h : Ty Go.Proofs.Tryd.prog 23 xs) : ∃ n, xs = [.int .u32 n] ∧ u32r n := by
  obtain ⟨n, rfl, h1, h2⟩ := Ty.int_inv Go.Proofs.Tryd.underlying23 h
  have h1 : 0 ≤ n := h1
  have h2 : n ≤ 4294967295 := h2
  exact ⟨n, rfl, h1, by omega⟩
theorem ty_u8 {xs : List LV} (h : Ty Go.Proofs.Tryd.prog 5 xs) : ∃ n, xs = [.int .u8 n] ∧ 0 ≤ n ∧ n < 256 := by
  obtain ⟨n, rfl, h1, h2⟩ := Ty.int_inv Go.Proofs.Tryd.underlying5 h
  have h1 : 0 ≤ n := h1
  have h2 : n ≤ 255 := h2
  exact ⟨n, rfl, h1, by omega⟩
theorem ty_bool {xs : List LV} (h : Ty Go.Proofs.Tryd.prog 4 xs) : ∃ b, xs = [.bool b] := Ty.bool_inv Go.Proofs.Tryd.underlying4 h
theorem ty_u32s {xs : List LV} (h : Ty Go.Proofs.Tryd.prog 24 xs) : ∃ l, xs = [u32s l] ∧ ∀ n ∈ l, u32r n := by
  obtain ⟨e, rfl, _, he⟩ := Ty.slice_inv Go.Proofs.Tryd.underlying24 h
  obtain ⟨l, rfl, hl⟩ := list_of (fun n => [.int .u32 n]) u32r e fun c hc => ty_u32 (he c hc)
  exact ⟨l, by rw [tsz23]; rfl, hl⟩
theorem ty_bytes {xs : List LV} (h : Ty Go.Proofs.Tryd.prog 36 xs) : ∃ l, xs = [bytes l] ∧ isB l := by
  obtain ⟨e, rfl, _, he⟩ := Ty.slice_inv Go.Proofs.Tryd.underlying36 h
  obtain ⟨l, rfl, hl⟩ := list_of (fun n => [.int .u8 n]) (fun n => 0 ≤ n ∧ n < 256) e fun c hc => ty_u8 (he c hc)
  exact ⟨l, by rw [tsz5]; rfl, hl⟩
theorem ty_seg {xs : List LV} (h : Ty Go.Proofs.Tryd.prog 82 xs) : ∃ s : Seg, xs = s.cells ∧ segT s := by
  obtain ⟨y1, r1, rfl, h1, h⟩ := TyFs.cons_inv (Ty.struct_inv Go.Proofs.Tryd.underlying82 h)
  obtain ⟨y2, r2, rfl, h2, h⟩ := TyFs.cons_inv h
  obtain rfl := TyFs.nil_inv h
  obtain ⟨k, rfl, hk⟩ := ty_int h1
  obtain ⟨l, rfl, hl⟩ := ty_u32s h2
  exact ⟨⟨k, l⟩, rfl, hk, hl⟩
theorem ty_segs {xs : List LV} (h : Ty Go.Proofs.Tryd.prog 22 xs) : ∃ l, xs = [segs l] ∧ ∀ s ∈ l, segT s := by
  obtain ⟨e, rfl, _, he⟩ := Ty.slice_inv Go.Proofs.Tryd.underlying22 h
  obtain ⟨l, rfl, hl⟩ := list_of Seg.cells segT e fun c hc => ty_seg (he c hc)
  exact ⟨l, by rw [tsz82]; rfl, hl⟩
theorem ty_raw {xs : List LV} (h : Ty Go.Proofs.Tryd.prog 53 xs) : ∃ r : Raw, xs = r.cells ∧ rawT r := by
  obtain ⟨y1, r1, rfl, h1, h⟩ := TyFs.cons_inv (Ty.struct_inv Go.Proofs.Tryd.underlying53 h)
  obtain ⟨y2, r2, rfl, h2, h⟩ := TyFs.cons_inv h
  obtain ⟨y3, r3, rfl, h3, h⟩ := TyFs.cons_inv h
  obtain rfl := TyFs.nil_inv h
  obtain ⟨a, rfl, ha⟩ := ty_int h1
  obtain ⟨b, rfl, hb⟩ := ty_int h2
  obtain ⟨l, rfl, hl⟩ := ty_bytes h3
  exact ⟨⟨a, b, l⟩, rfl, ha, hb, hl⟩
theorem ty_raws {xs : List LV} (h : Ty Go.Proofs.Tryd.prog 25 xs) : ∃ l, xs = [raws l] ∧ ∀ s ∈ l, rawT s := by
  obtain ⟨e, rfl, _, he⟩ := Ty.slice_inv Go.Proofs.Tryd.underlying25 h
  obtain ⟨l, rfl, hl⟩ := list_of Raw.cells rawT e fun c hc => ty_raw (he c hc)
  exact ⟨l, by rw [tsz53]; rfl, hl⟩
theorem ty_attrs {xs : List LV} (h : Ty Go.Proofs.Tryd.prog 27 xs) : ∃ a : Attrs, xs = a.cells ∧ AttrsT a := by
  obtain ⟨y1, r1, rfl, h1, h⟩ := TyFs.cons_inv (Ty.struct_inv Go.Proofs.Tryd.underlying27 h)
  obtain ⟨y2, r2, rfl, h2, h⟩ := TyFs.cons_inv h
  obtain ⟨y3, r3, rfl, h3, h⟩ := TyFs.cons_inv h
  obtain ⟨y4, r4, rfl, h4, h⟩ := TyFs.cons_inv h
  obtain ⟨y5, r5, rfl, h5, h⟩ := TyFs.cons_inv h
  obtain ⟨y6, r6, rfl, h6, h⟩ := TyFs.cons_inv h
  obtain ⟨y7, r7, rfl, h7, h⟩ := TyFs.cons_inv h
  obtain ⟨y8, r8, rfl, h8, h⟩ := TyFs.cons_inv h
  obtain ⟨y9, r9, rfl, h9, h⟩ := TyFs.cons_inv h
  obtain ⟨y10, r10, rfl, h10, h⟩ := TyFs.cons_inv h
  obtain ⟨y11, r11, rfl, h11, h⟩ := TyFs.cons_inv h
  obtain rfl := TyFs.nil_inv h
  obtain ⟨a1, rfl, k1⟩ := ty_int h1
  obtain ⟨a2, rfl, k2⟩ := ty_segs h2
  obtain ⟨a3, rfl, k3⟩ := ty_u32 h3
  obtain ⟨a4, rfl, k4⟩ := ty_int h4
  obtain ⟨a5, rfl, k5⟩ := ty_int h5
  obtain ⟨a6, rfl⟩ := ty_bool h6
  obtain ⟨a7, rfl⟩ := ty_bool h7
  obtain ⟨a8, rfl, k8⟩ := ty_u32 h8
  obtain ⟨a9, rfl, k9⟩ := ty_u32 h9
  obtain ⟨a10, rfl, k10⟩ := ty_u32s h10
  obtain ⟨a11, rfl, k11⟩ := ty_raws h11
  exact ⟨⟨a1, a2, a3, a4, a5, a6, a7, a8, a9, a10, a11⟩, rfl, k1, k2, k3, k4, k5, k8, k9, k10, k11⟩
/-! ### Arguments -/
theorem arg_attrs {v : AV} (h : TyA Go.Proofs.Tryd.prog 27 v) : ∃ a : Attrs, v = .agg a.cells ∧ AttrsT a := by
  obtain ⟨xs, rfl, h2⟩ := TyA.many tag27 h
  obtain ⟨a, rfl, ha⟩ := ty_attrs h2
  exact ⟨a, rfl, ha⟩
theorem arg_int {v : AV} (h : TyA Go.Proofs.Tryd.prog 3 v) : ∃ n, v = .l (.int .i64 n) ∧ i64r n := by
  obtain ⟨x, rfl, h2⟩ := TyA.one tag3 h
  obtain ⟨n, hx, hn⟩ := ty_int h2
  simp only [List.cons.injEq, and_true] at hx
  exact ⟨n, by rw [hx], hn⟩
theorem arg_u32 {v : AV} (h : TyA Go.Proofs.Tryd.prog 23 v) : ∃ n, v = .l (.int .u32 n) ∧ u32r n := by
  obtain ⟨x, rfl, h2⟩ := TyA.one tag23 h
  obtain ⟨n, hx, hn⟩ := ty_u32 h2
  simp only [List.cons.injEq, and_true] at hx
  exact ⟨n, by rw [hx], hn⟩
theorem arg_bool {v : AV} (h : TyA Go.Proofs.Tryd.prog 4 v) : ∃ b, v = .l (.bool b) := by
  obtain ⟨x, rfl, h2⟩ := TyA.one tag4 h
  obtain ⟨n, hx⟩ := ty_bool h2
  simp only [List.cons.injEq, and_true] at hx
  exact ⟨n, by rw [hx]⟩
end Go.Abs
