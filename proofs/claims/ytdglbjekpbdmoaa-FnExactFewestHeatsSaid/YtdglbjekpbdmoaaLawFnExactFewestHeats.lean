/- The row of FnExactFewestHeats: for every input the call returns true and leaves its arguments as they were, out of the printed walk and the pure statement. No condition. -/
import Derived.Test.YtdglbjekpbdmoaaRows
import Derived.Test.YtdglbjekpbdmoaaPFnExactFewestHeatsx5
import Derived.Test.YtdglbjekpbdmoaaPureFnExactFewestHeats
import Derived.Test.YtdglbjekpbdmoaaOpen
import Derived.WalkKit
import Derived.ProofKit
import Derived.OpenShut
import Derived.ShutString
import Derived.ChangeOld
import Derived.Below
import Derived.SizedLaws
import Derived.Test.YtdglbjekpbdmoaaWSized
namespace Go.Proofs.Ytdglbjekpbdmoaa.fnExactFewestHeats
open Go.ChangeShapes Go.WideShapes Go.ChangeAt Go.RowKit Go.Proofs.Ytdglbjekpbdmoaa.PFnExactFewestHeats Go.Proofs.YtdglbjekpbdmoaaW.PrintWords Go.Proofs.Ytdglbjekpbdmoaa.Open
set_option linter.unusedVariables false
theorem own : ownKnob Try.prog.godebug = none := by kernel_rfl
theorem laidOut : laidOutB Try.prog = true := by kernel_rfl
set_option maxRecDepth 100000 in
theorem lifted (os : Os) (started : os.Started) (H : Type) (enc : TypeId × Value → H) :
    ReturnsInHanded {} Try.checked os 7 .any (Rows.fnExactFewestHeatsSpec.pre6 enc Try.prog Try.f7 Rows.fnExactFewestHeatsRow.domain false) (Rows.fnExactFewestHeatsSpec.post enc Try.prog Try.f7 false true false false) := by
  refine returnsInHanded_of_change_sized (C := Try.checked) own started (by kernel_rfl) Try.func7
    (ChangeSpec.witness6 (enc := enc) (C := Try.checked) false ⟨#[], #[.slice none 0 0], []⟩ 8 (by kernel_rfl) (by kernel_rfl) (by kernel_rfl) (by kernel_rfl)) ?_
  intro W base args ds gs before hval0 hW hcnd hsz0 _
  have hsz : (DataW.weightsEach Try.prog (Try.f7.params.toList ++ Rows.fnExactFewestHeatsSpec.plain.varTypes Try.prog) (ds ++ gs)).all (· ≤ reachBytes) = true := hsz0
  have hval : ∀ (j : Nat) t v, Try.f7.params[j]? = some t → args[j]? = some v → Value.okWide Try.prog W .any base t v := hval0
  have hW' := hW
  obtain ⟨p, q, hA0, hV, rfl, hfz, hnd⟩ := hW
  have hA : DataW.TrodAll enc Try.prog W 0 (fun _ => true) true Try.f7.params.toList args.toList ds p := hA0
  rw [Try.params7] at hA hval hsz
  obtain ⟨v0, vs0, d0, ds0, p0, q0, hargs, rfl, rfl, h0, r0⟩ := trodAll_cons hA
  obtain ⟨rfl, rfl, rfl⟩ := trodAll_nil r0
  obtain rfl : args = #[v0] := by cases args; simp_all
  obtain ⟨rfl, rfl⟩ := trodVars_none hV
  have k0 := h0
  have lt0 : ∀ x ∈ p0, x.block < W.heap.size := by obtain ⟨m, hm⟩ := k0; exact DataW.trod_lt m _ _ _ hm
  obtain ⟨A0, len0, cap0, rfl⟩ := okWide_slice Try.underlying28 (hval 0 28 v0 rfl rfl)
  obtain ⟨L0, rfl, hc0, hm0, hb0, hw0, hd0⟩ := open_kd3 k23 rfl (fun x => (⟨x.1, x.2.1, x.2.2⟩ : S23)) (fun w x => k23_mk w _) hsz (j := 0) (t := 28) rfl rfl Try.underlying28 Try.underlying23 (by kernel_rfl) (by kernel_rfl) Try.underlying3 Try.underlying3 Try.underlying3 (by kernel_rfl) h0
  have hwm0 : ∀ y ∈ L0, (Lit.int .i64 y.f0).wf = true ∧ (Lit.int .i64 y.f1).wf = true ∧ (Lit.int .i64 y.f2).wf = true := by
    intro y hy
    obtain ⟨x, rfl, h⟩ := hw0 y hy
    exact h
  obtain ⟨k, hk⟩ := Pure.FnExactFewestHeats L0 hm0 hb0 hwm0
  refine (Go.Proofs.Ytdglbjekpbdmoaa.PFnExactFewestHeats.laws_FnExactFewestHeats.calls k A0 cap0 L0 true W ⟨rfl⟩ hd0 hc0 hk).mono fun e W' ⟨he, bel0⟩ => ?_
  have bel : Below W.heap.size W W' := by first | exact bel0 | exact bel0.below
  subst he
  exact ⟨_, rfl, _, _, _, [], _, [], hW', trodAll_mk1 (shut_bool Try.underlying4 _), (trodAll_cons_mk (Below.trod laidOut (by kernel_rfl) (of_decide_eq_true (by kernel_rfl)) k0 bel lt0) trodAll_mk0), rfl, bel.frame _, fun h => by cases h⟩
theorem over : Rows.fnExactFewestHeatsRow.holds Try.pinned (OpenSpec.ofChange Rows.fnExactFewestHeatsSpec) :=
  OpenClaim.holds_of_wide 7 Try.f7 rfl rfl rfl rfl rfl rfl rfl ⟨rfl, rfl, rfl, rfl, rfl⟩ rfl rfl rfl rfl rfl (by kernel_rfl) Try.func7 (by kernel_rfl)
    (of_decide_eq_true (by kernel_rfl)) (by unfold Func.isWrapper; first | (rw [if_pos (by decide +kernel)]; kernel_rfl) | (rw [if_neg (by decide +kernel)]; exact ⟨rfl, rfl⟩))
    (fun os started H enc _ => lifted os started H enc)
theorem proved : Rows.FnExactFewestHeatsSaid := over
#print axioms proved
end Go.Proofs.Ytdglbjekpbdmoaa.fnExactFewestHeats
namespace Go.Proofs.Ytdglbjekpbdmoaa
/-- The row, under a short name, for the claim. -/
theorem fnExactFewestHeats_holds : Rows.FnExactFewestHeatsSaid := fnExactFewestHeats.proved
end Go.Proofs.Ytdglbjekpbdmoaa
