/-
  'speculumlaw04.AttrsNarrow' returns true for every input, and leaves its arguments as they read; condition: the variable attrs.looks is as the program's text lays it (the card ties it).
-/
import Derived.Test.YtajeoodipplmlaaDoorT32
import Derived.Test.YtajeoodipplmlaaDoorO4
import Derived.Test.YtajeoodipplmlaaDoorCards
import Derived.Test.YtajeoodipplmlaaDoorTie
import Derived.WalkKit
import Derived.ProofKit
import Derived.OpenShut
import Derived.Deep.DeepHandedRow
import Derived.Lib.LaidTab
set_option linter.all false
namespace Go.Proofs.YtajeoodipplmlaaDoor.attrsNarrow
open Go.ChangeShapes Go.WideShapes Go.ChangeAt Go.RowKit Go.Abs

theorem own : ownKnob Go.Proofs.Tryd.prog.godebug = none := by kernel_rfl
theorem laidOut : laidOutB Go.Proofs.Tryd.prog = true := by kernel_rfl

theorem glob {W : World} (hL : laidMetH Go.Proofs.Tryd.prog Rows.attrsNarrowRow.laid W) : ∀ g cells, G0 g = some cells → ∀ (j : Nat) (x : LV), cells[j]? = some x → ∃ u, cellRd W g j u ∧ Rep (cellRd W) x u := by
  intro g cells hg
  unfold G0 at hg
  split at hg
  · rename_i h0
    subst h0
    obtain rfl := Option.some.inj hg
    exact laid_cells (name := "speculum/attrs.looks") (dat := Rows.laid_speculum_attrs_looks) (g := 0) (t := 57) (n := 8) (by kernel_rfl) (by kernel_rfl) (by kernel_rfl) (by kernel_rfl) List.mem_cons_self hL
  · cases hg

theorem run (as' : List AV) (h : TyAll Go.Proofs.Tryd.prog Go.Proofs.Tryd.f7.params.toList as') : ACX Go.Proofs.Tryd.prog G0 7 as' [] [] (.l (.bool true)) [] [] := by
  rw [Go.Proofs.Tryd.params7] at h
  obtain ⟨v1, vs, rfl, h1, h⟩ := TyAll.cons_inv h
  obtain rfl := TyAll.nil_inv h
  obtain ⟨a, rfl, ha⟩ := arg_attrs h1
  exact law_AttrsNarrow_ok a ha

set_option maxRecDepth 100000 in
theorem contract (H : Type) (enc : TypeId × Value → H) (W : World) (base : Nat) (args : Array Value) (ds gs : List (DataW H)) (before : List MemPlace)
    (hval : ∀ (j : Nat) t v, Go.Proofs.Tryd.f7.params[j]? = some t → args[j]? = some v → Value.okWide Go.Proofs.Tryd.prog W .any base t v)
    (hW : DataW.Whole enc Go.Proofs.Tryd.prog Go.Proofs.Tryd.f7.params.toList Rows.attrsNarrowSpec.vars false W args.toList ds gs before) (hL : laidMetH Go.Proofs.Tryd.prog Rows.attrsNarrowRow.laid W) :
    Calls Go.Proofs.Tryd.prog 7 args W fun e W' => ∃ v, e = .returned v ∧ Rows.attrsNarrowSpec.post enc Go.Proofs.Tryd.prog Go.Proofs.Tryd.f7 false true false false W args v W' :=
  law_contract (tb := 4) laidOut (by kernel_rfl) Go.Proofs.Tryd.underlying4 (by kernel_rfl) rfl
    (fun hlen => by
      rw [show Go.Proofs.Tryd.f7.params.size = 1 by rw [Go.Proofs.Tryd.params7]; rfl] at hlen
      match ds, hlen with
      | [d0], _ => rfl) hval hW (glob hL) run

noncomputable def laidWorld (os : Os) : World :=
  { World.holding Go.Proofs.Tryd.prog os ⟨#[], #[], []⟩ with heap := ((World.holding Go.Proofs.Tryd.prog os ⟨#[], #[], []⟩).heap.modify 0 fun
      | .cells _ t frozen => .cells #[.int .i64 0, .int .i64 0, .int .i64 0, .int .i64 64, .int .i64 1, .int .i64 1, .int .i64 64, .int .i64 0, .int .i64 65536, .int .i64 64, .int .i64 4, .int .i64 4, .int .i64 128, .int .i64 4, .int .i64 4, .int .i64 64, .int .i64 4, .int .i64 4, .int .i64 64, .int .i64 0, .int .i64 0, .int .i64 192, .int .i64 6, .int .i64 8, .int .i64 192, .int .i64 0, .int .i64 65536, .int .i64 0, .int .i64 0, .int .i64 0, .int .i64 0, .int .i64 0, .int .i64 0, .int .i64 0, .int .i64 0, .int .i64 0, .int .i64 0, .int .i64 0, .int .i64 0, .int .i64 0, .int .i64 0, .int .i64 0, .int .i64 0, .int .i64 0, .int .i64 0, .int .i64 0, .int .i64 0, .int .i64 0, .int .i64 0, .int .i64 0, .int .i64 0, .int .i64 192, .int .i64 0, .int .i64 65536, .int .i64 192, .int .i64 0, .int .i64 65536] t frozen
      | o => o) }
set_option maxRecDepth 100000 in
theorem laid_met (os : Os) : laidMet Go.Proofs.Tryd.prog Rows.attrsNarrowRow.laid ((laidWorld os).forCall (fun _ _ => 0) ⟨#[], #[.agg #[.int .i64 0, .slice none 0 0, .int .u32 0, .int .i64 0, .int .i64 0, .bool false, .bool false, .int .u32 0, .int .u32 0, .slice none 0 0, .slice none 0 0]], []⟩).memory :=
  laidMet_of_run' 9 (by kernel_rfl) (by kernel_rfl)
set_option maxRecDepth 100000 in
theorem reads (os : Os) {H : Type} (enc : TypeId × Value → H) : ∃ places, DataW.whole enc Go.Proofs.Tryd.prog ((laidWorld os).forCall (fun _ _ => 0) ⟨#[], #[.agg #[.int .i64 0, .slice none 0 0, .int .u32 0, .int .i64 0, .int .i64 0, .bool false, .bool false, .int .u32 0, .int .u32 0, .slice none 0 0, .slice none 0 0]], []⟩).memory Go.Proofs.Tryd.f7.params.toList Rows.attrsNarrowSpec.vars false (#[.agg #[.int .i64 0, .slice none 0 0, .int .u32 0, .int .i64 0, .int .i64 0, .bool false, .bool false, .int .u32 0, .int .u32 0, .slice none 0 0, .slice none 0 0]] : Array Value).toList 9 = some ([.agg [.lit (.int .i64 0), .nil, .lit (.int .u32 0), .lit (.int .i64 0), .lit (.int .i64 0), .lit (.bool false), .lit (.bool false), .lit (.int .u32 0), .lit (.int .u32 0), .nil, .nil]], [], places) :=
  ⟨[], by kernel_rfl⟩

set_option maxRecDepth 100000 in
theorem lifted (os : Os) (started : os.Started) (H : Type) (enc : TypeId × Value → H) (F : Stop.Interp) :
    ReturnsInHanded {} Go.Proofs.Tryd.checked os 7 .any ((OpenSpec.ofChange Rows.attrsNarrowSpec).preRow enc Go.Proofs.Tryd.prog Go.Proofs.Tryd.f7 Rows.attrsNarrowRow.domain false Rows.attrsNarrowRow.laid) (((OpenSpec.ofChange Rows.attrsNarrowSpec).at F).post enc Go.Proofs.Tryd.prog Go.Proofs.Tryd.f7 false true false false) := by
  obtain ⟨places, hx⟩ := reads os enc
  refine returnsInHanded_of_row (C := Go.Proofs.Tryd.checked) (s := OpenSpec.ofChange Rows.attrsNarrowSpec) own started (by kernel_rfl) Go.Proofs.Tryd.func7
    (witness_row_at (enc := enc) (C := Go.Proofs.Tryd.checked) false (laidWorld os) #[.agg #[.int .i64 0, .slice none 0 0, .int .u32 0, .int .i64 0, .int .i64 0, .bool false, .bool false, .int .u32 0, .int .u32 0, .slice none 0 0, .slice none 0 0]] rfl (by kernel_rfl) (by kernel_rfl) (by kernel_rfl)
      (OpenSpec.preRow_of_cond 9 hx (by kernel_rfl) (fun k hk => by cases hk) (by kernel_rfl) (laid_met os))) ?_
  intro W base args ds gs before hval hW _ _ _ hL _ _
  exact contract H enc W base args ds gs before hval hW hL

theorem said : Rows.AttrsNarrowSaid :=
  OpenClaim.holds_of_cond 7 Go.Proofs.Tryd.f7 rfl rfl rfl rfl rfl rfl rfl ⟨rfl, rfl, rfl, rfl, rfl⟩ rfl rfl rfl rfl rfl (by kernel_rfl) Go.Proofs.Tryd.func7 (by kernel_rfl)
    (of_decide_eq_true (by kernel_rfl)) (by unfold Func.isWrapper; first | (rw [if_pos (by decide +kernel)]; kernel_rfl) | (rw [if_neg (by decide +kernel)]; exact ⟨rfl, rfl⟩))
    (fun os started H enc _ F => by rw [OpenClaim.pre_eq_preRow]; exact lifted os started H enc F)

set_option maxRecDepth 100000 in
theorem plain (f : FuncId) (fn : Func) (hf : Tryd.pinned.checked.prog.funcNamed "speculum/speculumlaw04.AttrsNarrow" = some f) (hfn : Tryd.pinned.checked.prog.funcs[f]? = some fn) :
    false = Tryd.pinned.checked.prog.looks [] ∧ ∀ (j : Nat) t, fn.params[j]? = some t → Tryd.pinned.checked.prog.wantsStandIn t = false := by
  obtain rfl : f = 7 := Option.some.inj ((show Go.Proofs.Tryd.prog.funcNamed "speculum/speculumlaw04.AttrsNarrow" = some 7 by kernel_rfl).symm.trans hf) |>.symm
  obtain rfl : fn = Go.Proofs.Tryd.f7 := (Option.some.inj (Go.Proofs.Tryd.func7.symm.trans hfn)).symm
  refine ⟨by kernel_rfl, fun j t ht => ?_⟩
  rw [Go.Proofs.Tryd.params7] at ht
  have hm : t ∈ ([27] : List TypeId) := by simpa using Array.mem_of_getElem? ht
  have hall : (([27] : List TypeId).all fun t => !Go.Proofs.Tryd.prog.wantsStandIn t) = true := by kernel_rfl
  rw [List.all_eq_true] at hall
  have h1 := hall t hm
  have h2 : Go.Proofs.Tryd.prog.wantsStandIn t = false := by simpa using h1
  exact h2

/-- The statement. -/
theorem card : Rows.AttrsNarrowCardSaid :=
  Claim7.holds_tied_plain_at .later [] _ _ _ _ said (fun _ h => by cases h) (by kernel_rfl) (fun _ h => by cases h) attrsNarrow_row_tie rfl ⟨rfl, rfl⟩ (by kernel_rfl) rfl plain (by kernel_rfl)
end Go.Proofs.YtajeoodipplmlaaDoor.attrsNarrow
