/-
 FnExactFewestDuties: the program's function returns what the reference's returns, for all arguments; the arguments read as before. No condition.
-/
import Derived.Test.YtknhebakebmlcaaGreatRows
import Derived.Test.YtknhebakebmlcaaGreatLFewestDuties
import Derived.Test.YtknhebakebmlcaaGreatHeadW
import Derived.ProofKit
import Derived.OpenShut
import Derived.ShutString
import Derived.ChangeOld
namespace Go.Proofs.YtknhebakebmlcaaGreat
open Go Go.RowKit Go.ChangeShapes Go.WideShapes Go.ChangeAt
set_option linter.unusedVariables false
set_option maxRecDepth 100000
namespace FnExactFewestDuties
theorem own : ownKnob Tryz.prog.godebug = none := by kernel_rfl
theorem laidOut : laidOutB Tryz.prog = true := by kernel_rfl
set_option maxRecDepth 100000 in
theorem lifted (os : Os) (started : os.Started) (H : Type) (enc : TypeId × Value → H) :
  ReturnsInHanded {} Tryz.checked os 4 .any (Rows.fnExactFewestDutiesSpec.pre6 enc Tryz.prog Tryz.f4 Rows.fnExactFewestDutiesRow.domain false) (Rows.fnExactFewestDutiesSpec.post enc Tryz.prog Tryz.f4 false true false false) := by
 refine returnsInHanded_of_change (C := Tryz.checked) own started (by kernel_rfl) Tryz.func4
  (ChangeSpec.witness6 (enc := enc) (C := Tryz.checked) false ⟨#[], #[.agg #[.slice none 0 0, .slice none 0 0, .slice none 0 0], .agg #[.slice none 0 0, .int .i64 0], .slice none 0 0, .agg #[.int .i64 0, .int .i64 0, .int .i64 0, .int .i64 0, .int .i64 0, .int .i64 0]], []⟩ 8 (by kernel_rfl) (by kernel_rfl) (by kernel_rfl) (by kernel_rfl)) ?_
 intro W base args ds gs before hval0 hW hcnd _
 have hval : ∀ (j : Nat) t v, Tryz.f4.params[j]? = some t → args[j]? = some v → Value.okWide Tryz.prog W .any base t v := hval0
 have hW' := hW
 obtain ⟨p, q, hA0, hV, rfl, hfz, hnd⟩ := hW
 have hA : DataW.TrodAll enc Tryz.prog W 0 (fun _ => true) true Tryz.f4.params.toList args.toList ds p := hA0
 rw [Tryz.params4] at hA hval
 obtain ⟨v0, vs0, d0, ds0, p0, q0, hargs, rfl, rfl, h0, r0⟩ := trodAll_cons hA
 obtain ⟨v1, vs1, d1, ds1, p1, q1, rfl, rfl, rfl, h1, r1⟩ := trodAll_cons r0
 obtain ⟨v2, vs2, d2, ds2, p2, q2, rfl, rfl, rfl, h2, r2⟩ := trodAll_cons r1
 obtain ⟨v3, vs3, d3, ds3, p3, q3, rfl, rfl, rfl, h3, r3⟩ := trodAll_cons r2
 obtain ⟨rfl, rfl, rfl⟩ := trodAll_nil r3
 obtain rfl : args = #[v0, v1, v2, v3] := by cases args; simp_all
 obtain ⟨rfl, rfl⟩ := trodVars_none hV
 have k0 := h0
 have lt0 : ∀ x ∈ p0, x.block < W.heap.size := by obtain ⟨m, hm⟩ := k0; exact DataW.trod_lt m _ _ _ hm
 obtain ⟨cs0, rfl, hz0⟩ := okWide_struct Tryz.underlying28 (hval 0 28 v0 rfl rfl)
 obtain ⟨fu0, hf0⟩ := h0
 obtain ⟨t0, y0A0, y0n0, y0c0, y0A1, y0n1, y0c1, y0A2, y0n2, y0c2, e0, g0⟩ := opens_laws_Timetable hf0
 obtain rfl : cs0 = #[.slice y0A0 y0n0 y0c0, .slice y0A1 y0n1 y0c1, .slice y0A2 y0n2 y0c2] := by cases cs0; simpa [Value.cells] using e0
 have k1 := h1
 have lt1 : ∀ x ∈ p1, x.block < W.heap.size := by obtain ⟨m, hm⟩ := k1; exact DataW.trod_lt m _ _ _ hm
 obtain ⟨cs1, rfl, hz1⟩ := okWide_struct Tryz.underlying31 (hval 1 31 v1 rfl rfl)
 obtain ⟨fu1, hf1⟩ := h1
 obtain ⟨t1, y1A0, y1n0, y1c0, e1, g1⟩ := opens_laws_Fleet hf1
 obtain rfl : cs1 = #[.slice y1A0 y1n0 y1c0, .int .i64 t1.Turn] := by cases cs1; simpa [Value.cells] using e1
 have k2 := h2
 have lt2 : ∀ x ∈ p2, x.block < W.heap.size := by obtain ⟨m, hm⟩ := k2; exact DataW.trod_lt m _ _ _ hm
 obtain ⟨za2, zn2, zc2, rfl⟩ := okWide_slice Tryz.underlying29 (hval 2 29 v2 rfl rfl)
 obtain ⟨fu2, hf2⟩ := h2
 obtain ⟨t2, ya2, yn2, yc2, e2, g2⟩ := opens_slice (sz := 1) Tryz.underlying29 (by kernel_rfl) (by decide) (opens_slice (sz := 1) Tryz.underlying66 (by kernel_rfl) (by decide) (opens_int Tryz.underlying3)) hf2
 obtain ⟨rfl, rfl, rfl⟩ : za2 = ya2 ∧ zn2 = yn2 ∧ zc2 = yc2 := by simpa [Value.cells] using e2
 have k3 := h3
 have lt3 : ∀ x ∈ p3, x.block < W.heap.size := by obtain ⟨m, hm⟩ := k3; exact DataW.trod_lt m _ _ _ hm
 obtain ⟨cs3, rfl, hz3⟩ := okWide_struct Tryz.underlying33 (hval 3 33 v3 rfl rfl)
 obtain ⟨fu3, hf3⟩ := h3
 obtain ⟨t3, e3, g3⟩ := opens_laws_Rules hf3
 obtain rfl : cs3 = #[.int .i64 t3.SignOn, .int .i64 t3.SignOff, .int .i64 t3.MaxDrive, .int .i64 t3.MinBreak, .int .i64 t3.PaidBreak, .int .i64 t3.MaxLength] := by cases cs3; simpa [Value.cells] using e3
 clear hA0 hval0
 refine (w_FnExactFewestDuties g0 g1 g2 g3).mono fun e W' ⟨he, bel⟩ => ?_
 subst he
 exact ⟨_, rfl, _, _, _, [], _, [], hW', trodAll_mk1 (shut_bool Tryz.underlying4 _), (trodAll_cons_mk (Below.trod laidOut (by kernel_rfl) (of_decide_eq_true (by kernel_rfl)) k0 bel.below lt0) (trodAll_cons_mk (Below.trod laidOut (by kernel_rfl) (of_decide_eq_true (by kernel_rfl)) k1 bel.below lt1) (trodAll_cons_mk (Below.trod laidOut (by kernel_rfl) (of_decide_eq_true (by kernel_rfl)) k2 bel.below lt2) (trodAll_cons_mk (Below.trod laidOut (by kernel_rfl) (of_decide_eq_true (by kernel_rfl)) k3 bel.below lt3) trodAll_mk0)))), rfl, bel.below.frame _, fun h => by cases h⟩
theorem closed : joinedFacts Tryz.prog 4 Tryz.f4 Rows.fnExactFewestDutiesSpec Rows.fnExactFewestDutiesRow = true := by
 unfold joinedFacts
 rw [make_eq, lifts_eq, enter_eq]
 kernel_rfl
theorem proved : Rows.FnExactFewestDutiesSaid :=
 OpenClaim.holds_of_wide 4 Tryz.f4 rfl rfl rfl rfl rfl rfl rfl ⟨rfl, rfl, rfl, rfl, rfl⟩ rfl rfl rfl rfl rfl (by kernel_rfl) Tryz.func4 closed
  (of_decide_eq_true (by kernel_rfl)) (by unfold Func.isWrapper; first | (rw [if_pos (by decide +kernel)]; kernel_rfl) | (rw [if_neg (by decide +kernel)]; exact ⟨rfl, rfl⟩))
  (fun os started H enc _ => lifted os started H enc)
#print axioms proved
end FnExactFewestDuties
end Go.Proofs.YtknhebakebmlcaaGreat
