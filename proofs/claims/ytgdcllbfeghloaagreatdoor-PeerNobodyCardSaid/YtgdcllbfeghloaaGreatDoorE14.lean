/-
  'speculumlaw24.PeerNobody' returns true for every input; condition: the variables attrs.looks, fsm.table and frame.leasts are as the program's text lays them (the card ties it).
-/
import Derived.Test.YtgdcllbfeghloaaGreatDoorA24
import Derived.Test.YtgdcllbfeghloaaGreatDoorCards
import Derived.Test.YtgdcllbfeghloaaGreatDoorTie
import Derived.WalkKit
import Derived.ProofKit
import Derived.OpenShut
import Derived.Deep.DeepHandedRow
import Derived.Lib.LaidTab
set_option linter.all false
namespace Go.Proofs.YtgdcllbfeghloaaGreatDoor.peerNobody
open Go.ChangeShapes Go.WideShapes Go.ChangeAt Go.RowKit Go.Abs

theorem own : ownKnob Go.Proofs.Tryz.prog.godebug = none := by kernel_rfl
theorem laidOut : laidOutB Go.Proofs.Tryz.prog = true := by kernel_rfl

theorem glob {W : World} (hL : laidMetH Go.Proofs.Tryz.prog Rows.peerNobodyRow.laid W) : ∀ g cells, G0 g = some cells → ∀ (j : Nat) (x : LV), cells[j]? = some x → ∃ u, cellRd W g j u ∧ Rep (cellRd W) x u := by
  intro g cells hg
  unfold G0 at hg
  split at hg
  · rename_i h0
    subst h0
    obtain rfl := Option.some.inj hg
    exact laid_cells (name := "speculum/fsm.table") (dat := Rows.laid_speculum_fsm_table) (g := 0) (t := 172) (n := 8) (by kernel_rfl) (by kernel_rfl) (by kernel_rfl) (by kernel_rfl) (List.mem_cons_of_mem _ List.mem_cons_self) hL
  split at hg
  · rename_i h0
    subst h0
    obtain rfl := Option.some.inj hg
    exact laid_cells (name := "speculum/frame.leasts") (dat := Rows.laid_speculum_frame_leasts) (g := 1) (t := 233) (n := 8) (by kernel_rfl) (by kernel_rfl) (by kernel_rfl) (by kernel_rfl) List.mem_cons_self hL
  split at hg
  · rename_i h0
    subst h0
    obtain rfl := Option.some.inj hg
    exact laid_cells (name := "speculum/attrs.looks") (dat := Rows.laid_speculum_attrs_looks) (g := 2) (t := 264) (n := 8) (by kernel_rfl) (by kernel_rfl) (by kernel_rfl) (by kernel_rfl) (List.mem_cons_of_mem _ (List.mem_cons_of_mem _ List.mem_cons_self)) hL
  cases hg

theorem run (as' : List AV) (h : TyAll Go.Proofs.Tryz.prog Go.Proofs.Tryz.f4.params.toList as') : ACX Go.Proofs.Tryz.prog G0 4 as' [] [] (.l (.bool true)) [] [] := by
  rw [Go.Proofs.Tryz.params4] at h
  obtain ⟨v1, vs, rfl, h1, h⟩ := TyAll.cons_inv h
  obtain ⟨v2, vs, rfl, h2, h⟩ := TyAll.cons_inv h
  obtain rfl := TyAll.nil_inv h
  obtain ⟨n, rfl, hn⟩ := arg_int h1
  obtain ⟨x, rfl, h3⟩ := TyA.one tag38 h2
  obtain ⟨e, hx, _, _⟩ := Ty.slice_inv Go.Proofs.Tryz.underlying38 h3
  simp only [List.cons.injEq, and_true] at hx
  subst hx
  rw [tsz5]
  exact law_PeerNobody_ok n e

set_option maxRecDepth 100000 in
theorem contract (H : Type) (enc : TypeId × Value → H) (W : World) (base : Nat) (args : Array Value) (ds gs : List (DataW H)) (before : List MemPlace)
    (hval : ∀ (j : Nat) t v, Go.Proofs.Tryz.f4.params[j]? = some t → args[j]? = some v → Value.okWide Go.Proofs.Tryz.prog W .any base t v)
    (hW : DataW.Whole enc Go.Proofs.Tryz.prog Go.Proofs.Tryz.f4.params.toList Rows.peerNobodySpec.vars false W args.toList ds gs before) (hL : laidMetH Go.Proofs.Tryz.prog Rows.peerNobodyRow.laid W) :
    Calls Go.Proofs.Tryz.prog 4 args W fun e W' => ∃ v, e = .returned v ∧ Rows.peerNobodySpec.post enc Go.Proofs.Tryz.prog Go.Proofs.Tryz.f4 false true false false W args v W' :=
  law_contract (tb := 4) laidOut (by kernel_rfl) Go.Proofs.Tryz.underlying4 (by kernel_rfl) rfl
    (fun hlen => by
      rw [show Go.Proofs.Tryz.f4.params.size = 2 by rw [Go.Proofs.Tryz.params4]; rfl] at hlen
      match ds, hlen with
      | [d0, d1], _ => rfl) hval hW (glob hL) run

noncomputable def laidWorld (os : Os) : World :=
  { World.holding Go.Proofs.Tryz.prog os ⟨#[], #[], []⟩ with heap := ((((World.holding Go.Proofs.Tryz.prog os ⟨#[], #[], []⟩).heap.modify 0 fun
      | .cells _ t frozen => .cells #[.int .i64 1, .int .i64 129, .int .i64 0, .int .i64 0, .int .i64 0, .int .i64 2, .int .i64 0, .int .i64 0, .int .i64 0, .int .i64 0, .int .i64 0, .int .i64 0, .int .i64 0, .int .i64 0, .int .i64 0, .int .i64 0, .int .i64 0, .int .i64 0, .int .i64 0, .int .i64 0, .int .i64 0, .int .i64 0, .int .i64 0, .int .i64 0, .int .i64 0, .int .i64 0, .int .i64 0, .int .i64 0, .int .i64 0, .int .i64 0, .int .i64 0, .int .i64 0, .int .i64 1, .int .i64 0, .int .i64 0, .int .i64 2050, .int .i64 3, .int .i64 2308, .int .i64 2, .int .i64 128, .int .i64 1, .int .i64 129, .int .i64 0, .int .i64 2050, .int .i64 0, .int .i64 2050, .int .i64 0, .int .i64 2050, .int .i64 0, .int .i64 2050, .int .i64 0, .int .i64 2050, .int .i64 0, .int .i64 2050, .int .i64 0, .int .i64 2050, .int .i64 0, .int .i64 2050, .int .i64 0, .int .i64 2050, .int .i64 0, .int .i64 2050, .int .i64 0, .int .i64 2050, .int .i64 2, .int .i64 0, .int .i64 0, .int .i64 2050, .int .i64 3, .int .i64 2308, .int .i64 0, .int .i64 2050, .int .i64 1, .int .i64 129, .int .i64 0, .int .i64 2050, .int .i64 0, .int .i64 2050, .int .i64 0, .int .i64 2050, .int .i64 0, .int .i64 2050, .int .i64 0, .int .i64 2050, .int .i64 0, .int .i64 2050, .int .i64 0, .int .i64 2050, .int .i64 0, .int .i64 2050, .int .i64 0, .int .i64 2050, .int .i64 0, .int .i64 2050, .int .i64 0, .int .i64 2050, .int .i64 3, .int .i64 0, .int .i64 0, .int .i64 2066, .int .i64 3, .int .i64 0, .int .i64 2, .int .i64 2176, .int .i64 0, .int .i64 2066, .int .i64 0, .int .i64 2066, .int .i64 0, .int .i64 2066, .int .i64 4, .int .i64 1544, .int .i64 0, .int .i64 2066, .int .i64 0, .int .i64 2066, .int .i64 0, .int .i64 2066, .int .i64 0, .int .i64 2050, .int .i64 0, .int .i64 2066, .int .i64 0, .int .i64 2066, .int .i64 0, .int .i64 2066, .int .i64 0, .int .i64 2066, .int .i64 4, .int .i64 0, .int .i64 0, .int .i64 2066, .int .i64 4, .int .i64 0, .int .i64 0, .int .i64 2048, .int .i64 0, .int .i64 2066, .int .i64 0, .int .i64 2066, .int .i64 4, .int .i64 1032, .int .i64 0, .int .i64 2066, .int .i64 0, .int .i64 2066, .int .i64 0, .int .i64 2066, .int .i64 0, .int .i64 2066, .int .i64 0, .int .i64 2050, .int .i64 5, .int .i64 544, .int .i64 0, .int .i64 2066, .int .i64 0, .int .i64 2066, .int .i64 0, .int .i64 2066, .int .i64 5, .int .i64 0, .int .i64 0, .int .i64 2130, .int .i64 5, .int .i64 0, .int .i64 0, .int .i64 2112, .int .i64 0, .int .i64 2130, .int .i64 0, .int .i64 2130, .int .i64 5, .int .i64 1032, .int .i64 0, .int .i64 2130, .int .i64 0, .int .i64 2130, .int .i64 0, .int .i64 2130, .int .i64 0, .int .i64 2130, .int .i64 0, .int .i64 2114, .int .i64 5, .int .i64 512, .int .i64 5, .int .i64 512, .int .i64 0, .int .i64 2130, .int .i64 0, .int .i64 2130] t frozen
      | o => o).modify 1 fun
      | .cells _ t frozen => .cells #[.int .i64 0, .int .i64 29, .int .i64 23, .int .i64 21, .int .i64 19] t frozen
      | o => o).modify 2 fun
      | .cells _ t frozen => .cells #[.int .i64 0, .int .i64 0, .int .i64 0, .int .i64 64, .int .i64 1, .int .i64 1, .int .i64 64, .int .i64 0, .int .i64 65536, .int .i64 64, .int .i64 4, .int .i64 4, .int .i64 128, .int .i64 4, .int .i64 4, .int .i64 64, .int .i64 4, .int .i64 4, .int .i64 64, .int .i64 0, .int .i64 0, .int .i64 192, .int .i64 6, .int .i64 8, .int .i64 192, .int .i64 0, .int .i64 65536, .int .i64 0, .int .i64 0, .int .i64 0, .int .i64 0, .int .i64 0, .int .i64 0, .int .i64 0, .int .i64 0, .int .i64 0, .int .i64 0, .int .i64 0, .int .i64 0, .int .i64 0, .int .i64 0, .int .i64 0, .int .i64 0, .int .i64 0, .int .i64 0, .int .i64 0, .int .i64 0, .int .i64 0, .int .i64 0, .int .i64 0, .int .i64 0, .int .i64 192, .int .i64 0, .int .i64 65536, .int .i64 192, .int .i64 0, .int .i64 65536] t frozen
      | o => o) }
set_option maxRecDepth 100000 in
theorem laid_met (os : Os) : laidMet Go.Proofs.Tryz.prog Rows.peerNobodyRow.laid ((laidWorld os).forCall (fun _ _ => 0) ⟨#[], #[.int .i64 0, .slice none 0 0], []⟩).memory :=
  laidMet_of_run' 9 (by kernel_rfl) (by kernel_rfl)
set_option maxRecDepth 100000 in
theorem reads (os : Os) {H : Type} (enc : TypeId × Value → H) : ∃ places, DataW.whole enc Go.Proofs.Tryz.prog ((laidWorld os).forCall (fun _ _ => 0) ⟨#[], #[.int .i64 0, .slice none 0 0], []⟩).memory Go.Proofs.Tryz.f4.params.toList Rows.peerNobodySpec.vars false (#[.int .i64 0, .slice none 0 0] : Array Value).toList 9 = some ([.lit (.int .i64 0), .nil], [], places) :=
  ⟨[], by kernel_rfl⟩

set_option maxRecDepth 100000 in
theorem lifted (os : Os) (started : os.Started) (H : Type) (enc : TypeId × Value → H) (F : Stop.Interp) :
    ReturnsInHanded {} Go.Proofs.Tryz.checked os 4 .any ((OpenSpec.ofChange Rows.peerNobodySpec).preRow enc Go.Proofs.Tryz.prog Go.Proofs.Tryz.f4 Rows.peerNobodyRow.domain false Rows.peerNobodyRow.laid) (((OpenSpec.ofChange Rows.peerNobodySpec).at F).post enc Go.Proofs.Tryz.prog Go.Proofs.Tryz.f4 false true false false) := by
  obtain ⟨places, hx⟩ := reads os enc
  refine returnsInHanded_of_row (C := Go.Proofs.Tryz.checked) (s := OpenSpec.ofChange Rows.peerNobodySpec) own started (by kernel_rfl) Go.Proofs.Tryz.func4
    (witness_row_at (enc := enc) (C := Go.Proofs.Tryz.checked) false (laidWorld os) #[.int .i64 0, .slice none 0 0] rfl (by kernel_rfl) (by kernel_rfl) (by kernel_rfl)
      (OpenSpec.preRow_of_cond 9 hx (by kernel_rfl) (fun k hk => by cases hk) (by kernel_rfl) (laid_met os))) ?_
  intro W base args ds gs before hval hW _ _ _ hL _ _
  exact contract H enc W base args ds gs before hval hW hL

theorem said : Rows.PeerNobodySaid :=
  OpenClaim.holds_of_cond 4 Go.Proofs.Tryz.f4 rfl rfl rfl rfl rfl rfl rfl ⟨rfl, rfl, rfl, rfl, rfl⟩ rfl rfl rfl rfl rfl (by kernel_rfl) Go.Proofs.Tryz.func4 (by kernel_rfl)
    (of_decide_eq_true (by kernel_rfl)) (by unfold Func.isWrapper; first | (rw [if_pos (by decide +kernel)]; kernel_rfl) | (rw [if_neg (by decide +kernel)]; exact ⟨rfl, rfl⟩))
    (fun os started H enc _ F => by rw [OpenClaim.pre_eq_preRow]; exact lifted os started H enc F)

set_option maxRecDepth 100000 in
theorem plain (f : FuncId) (fn : Func) (hf : Tryz.pinned.checked.prog.funcNamed "speculum/speculumlaw24.PeerNobody" = some f) (hfn : Tryz.pinned.checked.prog.funcs[f]? = some fn) :
    false = Tryz.pinned.checked.prog.looks [] ∧ ∀ (j : Nat) t, fn.params[j]? = some t → Tryz.pinned.checked.prog.wantsStandIn t = false := by
  obtain rfl : f = 4 := Option.some.inj ((show Go.Proofs.Tryz.prog.funcNamed "speculum/speculumlaw24.PeerNobody" = some 4 by kernel_rfl).symm.trans hf) |>.symm
  obtain rfl : fn = Go.Proofs.Tryz.f4 := (Option.some.inj (Go.Proofs.Tryz.func4.symm.trans hfn)).symm
  refine ⟨by kernel_rfl, fun j t ht => ?_⟩
  rw [Go.Proofs.Tryz.params4] at ht
  have hm : t ∈ ([3, 38] : List TypeId) := by simpa using Array.mem_of_getElem? ht
  have hall : (([3, 38] : List TypeId).all fun t => !Go.Proofs.Tryz.prog.wantsStandIn t) = true := by kernel_rfl
  rw [List.all_eq_true] at hall
  have h1 := hall t hm
  have h2 : Go.Proofs.Tryz.prog.wantsStandIn t = false := by simpa using h1
  exact h2

/-- The statement. -/
theorem card : Rows.PeerNobodyCardSaid :=
  Claim7.holds_tied_plain_at .later [] _ _ _ _ said (fun _ h => by cases h) (by kernel_rfl) (fun _ h => by cases h) peerNobody_row_tie rfl ⟨rfl, rfl⟩ (by kernel_rfl) rfl plain (by kernel_rfl)
end Go.Proofs.YtgdcllbfeghloaaGreatDoor.peerNobody
