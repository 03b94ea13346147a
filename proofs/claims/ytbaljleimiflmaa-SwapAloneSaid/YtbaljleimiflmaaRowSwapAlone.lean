/-
  SwapAlone answers true of whatever it is asked (choices, texts, a user, another text), whatever memory that lies in; what was asked reads behind the call as it read before. No condition beyond the form's own reach.
-/
import Derived.Test.YtbaljleimiflmaaRows
import Derived.Test.YtbaljleimiflmaaQSwapAlonex3
import Derived.Test.YtbaljleimiflmaaPureSwapAlone
import Derived.Test.YtbaljleimiflmaaRead
import Derived.WalkKit
import Derived.ProofKit
import Derived.OpenShut
import Derived.ShutString
import Derived.ChangeOld
import Derived.Below
import Derived.SizedLaws
import Derived.Lib.SmallJoins
namespace Go.Proofs.Ytbaljleimiflmaa.swapAlone
open Go.ChangeShapes Go.WideShapes Go.ChangeAt Go.RowKit Go.Joins Go.Proofs.YtbaljleimiflmaaW.PrintWords
theorem own : ownKnob Try.prog.godebug = none := by kernel_rfl
theorem laidOut : laidOutB Try.prog = true := by kernel_rfl
/-- A slice's own value, off its reading. -/
theorem slice_at {H : Type} {enc : TypeId × Value → H} {P : Program} {w : World} {base : Nat} {spare : Nat → Bool} {held : Bool} {t e : TypeId} {n : Nat} {v : Value} {y : DataW H × List MemPlace} (ht : P.underlying t = some (.slice e))
    (h : DataW.trod enc P w base spare held n t [v] = some y) : ∃ a len cap, v = .slice a len cap ∧ DataW.Trod enc P w base spare held t (.slice a len cap) y.1 y.2 := by
  rcases DataW.trod_slice ht h with ⟨hcs, _⟩ | ⟨b, l, c, elems, rest, m, _, hcs, _⟩
  · obtain rfl := List.singleton_inj.1 hcs
    exact ⟨_, _, _, rfl, n, h⟩
  · obtain rfl := List.singleton_inj.1 hcs
    exact ⟨_, _, _, rfl, n, h⟩
set_option maxRecDepth 100000 in
theorem lifted (os : Os) (started : os.Started) (H : Type) (enc : TypeId × Value → H) :
    ReturnsInHanded {} Try.checked os 9 .any (Rows.swapAloneSpec.pre6 enc Try.prog Try.f9 Rows.swapAloneRow.domain false) (Rows.swapAloneSpec.post enc Try.prog Try.f9 false true false false) := by
  refine returnsInHanded_of_change_sized (C := Try.checked) own started (by kernel_rfl) Try.func9
    (ChangeSpec.witness6 (enc := enc) (C := Try.checked) false ⟨#[], #[.agg #[.slice none 0 0, .slice none 0 0, .int .u8 0, .string ⟨#[]⟩]], []⟩ 8 (by kernel_rfl) (by kernel_rfl) (by kernel_rfl) (by kernel_rfl)) ?_
  intro W base args ds gs before hval0 hW _ hsz0 _
  have hsz : (DataW.weightsEach Try.prog (Try.f9.params.toList ++ Rows.swapAloneSpec.plain.varTypes Try.prog) (ds ++ gs)).all (· ≤ reachBytes) = true := hsz0
  have hval : ∀ (j : Nat) t v, Try.f9.params[j]? = some t → args[j]? = some v → Value.okWide Try.prog W .any base t v := hval0
  have hW' := hW
  obtain ⟨p, q, hA0, hV, rfl, hfz, hnd⟩ := hW
  have hA : DataW.TrodAll enc Try.prog W 0 (fun _ => true) true Try.f9.params.toList args.toList ds p := hA0
  rw [Try.params9] at hA hval hsz
  obtain ⟨v0, vs0, d0, ds0, p0, q0, hargs, rfl, rfl, h0, r0⟩ := trodAll_cons hA
  obtain ⟨rfl, rfl, rfl⟩ := trodAll_nil r0
  obtain rfl : args = #[v0] := by cases args; simp_all
  obtain ⟨rfl, rfl⟩ := trodVars_none hV
  have k0 := h0
  have lt0 : ∀ x ∈ p0, x.block < W.heap.size := by obtain ⟨m, hm⟩ := h0; exact DataW.trod_lt m _ _ _ hm
  obtain ⟨u0, u1, u2, u3, z0, z1, z2, z3, n, rfl, rfl, rfl, g0, g1, g2, g3⟩ := open_agg4 Try.underlying59 (by kernel_rfl) (by kernel_rfl) (hval 0 59 v0 rfl rfl) h0
  have hsz2 : (DataW.weightsEach Try.prog [39, 40, 5, 9] [z0.1, z1.1, z2.1, z3.1]).all (· ≤ reachBytes) = true := by
    refine List.all_eq_true.2 fun m hm => List.all_eq_true.1 hsz m (DataW.weights_mem_each (j := 0) rfl rfl m ?_)
    unfold DataW.weights
    rw [Try.underlying59]
    exact hm
  obtain ⟨a0, len0, cap0, rfl, t0⟩ := slice_at Try.underlying39 g0
  obtain ⟨a1, len1, cap1, rfl, t1⟩ := slice_at Try.underlying40 g1
  obtain ⟨x2, e2, _, w2⟩ := DataW.trod_int Try.underlying5 g2
  obtain ⟨x3, e3, _, _⟩ := DataW.trod_string Try.underlying9 g3
  obtain rfl := List.singleton_inj.1 e2
  obtain rfl := List.singleton_inj.1 e3
  obtain ⟨l0, rfl, c0, b0, _⟩ := Read.read_slice (Kd.int .i64) _ Try.underlying39 (by kernel_rfl) (fun n cs y h => Read.int_K Try.underlying3 h) t0
  obtain ⟨l1, rfl, c1, b1, _⟩ := Read.read_slice Kd.string _ Try.underlying40 (by kernel_rfl) (fun n cs y h => Read.string_K Try.underlying9 h) t1
  have y1 : l1.length * 16 ≤ 140737488351232 := Read.sized_any hsz2 (j := 1) (t := 40) rfl rfl Try.underlying40 (by kernel_rfl) t1
  clear hA0 hval0 hsz0 hsz hsz2
  obtain ⟨k, hk⟩ := Pure.SwapAlone l0 l1 x2 x3 y1 (bounds_u8 w2)
  refine (PSwapAlone.billetlaw26_SwapAlone.calls k a0 cap0 l0 a1 cap1 l1 x2 x3 true W c0 b0 c1 b1 hk).mono fun e W' ⟨he, bel⟩ => ?_
  subst he
  exact ⟨_, rfl, _, _, _, [], _, [], hW', trodAll_mk1 (shut_bool Try.underlying4 _), (trodAll_cons_mk (Below.trod laidOut (by kernel_rfl) (of_decide_eq_true (by kernel_rfl)) k0 bel lt0) trodAll_mk0), rfl, bel.frame _, fun h => by cases h⟩
theorem over : Rows.swapAloneRow.holds Try.pinned (OpenSpec.ofChange Rows.swapAloneSpec) :=
  OpenClaim.holds_of_wide 9 Try.f9 rfl rfl rfl rfl rfl rfl rfl ⟨rfl, rfl, rfl, rfl, rfl⟩ rfl rfl rfl rfl rfl (by kernel_rfl) Try.func9 (by kernel_rfl)
    (of_decide_eq_true (by kernel_rfl)) (by unfold Func.isWrapper; first | (rw [if_pos (by decide +kernel)]; kernel_rfl) | (rw [if_neg (by decide +kernel)]; exact ⟨rfl, rfl⟩))
    (fun os started H enc _ => lifted os started H enc)
end Go.Proofs.Ytbaljleimiflmaa.swapAlone
namespace Go.Proofs.Ytbaljleimiflmaa
/-- The row, under a short name, for the claim. -/
theorem swapAlone_holds : Rows.SwapAloneSaid := swapAlone.over
#print axioms swapAlone_holds
end Go.Proofs.Ytbaljleimiflmaa
