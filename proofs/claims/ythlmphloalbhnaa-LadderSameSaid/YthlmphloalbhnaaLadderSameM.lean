/-
  mailsacklaw04.LadderSame: what is clamped off a scalar, and the highest bit of a point, turn nothing.
-/
import Derived.Test.YthlmphloalbhnaaRows
import Derived.Test.YthlmphloalbhnaaLdLM
import Derived.ProofKit
import Derived.OpenShut
import Derived.ShutString
import Derived.ChangeOld
import Derived.Below
namespace Go.Proofs.Ythlmphloalbhnaa
open Go.ChangeShapes Go.WideShapes Go.ChangeAt Go.RowKit MS
open Go.ChangeMaps (open_string shut_string)

theorem laddersame_own : ownKnob Try.prog.godebug = none := by kernel_rfl
theorem laddersame_laid : laidOutB Try.prog = true := by kernel_rfl

set_option maxRecDepth 100000 in
theorem laddersame_lifted (os : Os) (started : os.Started) (H : Type) (enc : TypeId × Value → H) :
    ReturnsInHanded {} Try.checked os 12 .any (Rows.ladderSameSpec.pre6 enc Try.prog Try.f12 Rows.ladderSameRow.domain false) (Rows.ladderSameSpec.post enc Try.prog Try.f12 false true false false) := by
  refine returnsInHanded_of_change (C := Try.checked) laddersame_own started (by kernel_rfl) Try.func12
    (ChangeSpec.witness6 (enc := enc) (C := Try.checked) false ⟨#[], #[.string ByteArray.empty, .string ByteArray.empty, .int .u8 0, .int .u8 0], []⟩ 8 (by kernel_rfl) (by kernel_rfl) (by kernel_rfl) (by kernel_rfl)) ?_
  intro W base args ds gs before hval0 hW _ _
  have hval : ∀ (j : Nat) t v, Try.f12.params[j]? = some t → args[j]? = some v → Value.okWide Try.prog W .any base t v := hval0
  have hW' := hW
  obtain ⟨p, q, hA0, hV, rfl, _, _⟩ := hW
  have hA : DataW.TrodAll enc Try.prog W 0 (fun _ => true) true Try.f12.params.toList args.toList ds p := hA0
  rw [Try.params12] at hA hval
  obtain ⟨v0, vs0, d0, ds0, p0, q0, hargs, rfl, rfl, h0, r0⟩ := trodAll_cons hA
  obtain ⟨v1, vs1, d1, ds1, p1, q1, rfl, rfl, rfl, h1, r1⟩ := trodAll_cons r0
  obtain ⟨v2, vs2, d2, ds2, p2, q2, rfl, rfl, rfl, h2, r2⟩ := trodAll_cons r1
  obtain ⟨v3, vs3, d3, ds3, p3, q3, rfl, rfl, rfl, h3, r3⟩ := trodAll_cons r2
  obtain ⟨rfl, rfl, rfl⟩ := trodAll_nil r3
  obtain rfl : args = #[v0, v1, v2, v3] := by cases args; simp_all
  obtain ⟨rfl, rfl⟩ := trodVars_none hV
  have lt0 : ∀ x ∈ p0, x.block < W.heap.size := by obtain ⟨m, hm⟩ := h0; exact DataW.trod_lt m _ _ _ hm
  have lt1 : ∀ x ∈ p1, x.block < W.heap.size := by obtain ⟨m, hm⟩ := h1; exact DataW.trod_lt m _ _ _ hm
  have lt2 : ∀ x ∈ p2, x.block < W.heap.size := by obtain ⟨m, hm⟩ := h2; exact DataW.trod_lt m _ _ _ hm
  have lt3 : ∀ x ∈ p3, x.block < W.heap.size := by obtain ⟨m, hm⟩ := h3; exact DataW.trod_lt m _ _ _ hm
  obtain ⟨a0, e0⟩ : ∃ s : ByteArray, v0 = .string s := by
    obtain ⟨s, e, _⟩ := open_string Try.underlying9 (hval 0 9 v0 rfl rfl) h0
    exact ⟨s, e⟩
  obtain ⟨a1, e1⟩ : ∃ s : ByteArray, v1 = .string s := by
    obtain ⟨s, e, _⟩ := open_string Try.underlying9 (hval 1 9 v1 rfl rfl) h1
    exact ⟨s, e⟩
  obtain ⟨a2, e2⟩ : ∃ x : UInt8, v2 = .int .u8 (x.toNat : Int) := by
    obtain ⟨n, e, _, _, wf⟩ := open_int Try.underlying5 (hval 2 5 v2 rfl rfl) h2
    have bd := bounds_u8 wf
    exact ⟨UInt8.ofNat n.toNat, by rw [e, u8_of n (by omega) (by omega)]⟩
  obtain ⟨a3, e3⟩ : ∃ x : UInt8, v3 = .int .u8 (x.toNat : Int) := by
    obtain ⟨n, e, _, _, wf⟩ := open_int Try.underlying5 (hval 3 5 v3 rfl rfl) h3
    have bd := bounds_u8 wf
    exact ⟨UInt8.ofNat n.toNat, by rw [e, u8_of n (by omega) (by omega)]⟩
  clear hA0 hval0
  subst e0
  subst e1
  subst e2
  subst e3
  refine Calls.mono (laddersame_any a0 a1 a2 a3 W) fun e W' ⟨he, bel⟩ => ?_
  subst he
  exact ⟨_, rfl, _, _, _, [], _, [], hW', trodAll_mk1 (shut_bool Try.underlying4 _), (trodAll_cons_mk (Below.trod laddersame_laid (by kernel_rfl) (of_decide_eq_true (by kernel_rfl)) h0 bel lt0) (trodAll_cons_mk (Below.trod laddersame_laid (by kernel_rfl) (of_decide_eq_true (by kernel_rfl)) h1 bel lt1) (trodAll_cons_mk (Below.trod laddersame_laid (by kernel_rfl) (of_decide_eq_true (by kernel_rfl)) h2 bel lt2) (trodAll_cons_mk (Below.trod laddersame_laid (by kernel_rfl) (of_decide_eq_true (by kernel_rfl)) h3 bel lt3) trodAll_mk0)))), rfl, bel.frame _, fun h => by cases h⟩

theorem laddersame_holds : Rows.LadderSameSaid :=
  OpenClaim.holds_of_wide 12 Try.f12 rfl rfl rfl rfl rfl rfl rfl ⟨rfl, rfl, rfl, rfl, rfl⟩ rfl rfl rfl rfl rfl (by kernel_rfl) Try.func12 (by kernel_rfl)
    (of_decide_eq_true (by kernel_rfl)) (by unfold Func.isWrapper; first | (rw [if_pos (by decide +kernel)]; kernel_rfl) | (rw [if_neg (by decide +kernel)]; exact ⟨rfl, rfl⟩))
    (fun os started H enc _ => laddersame_lifted os started H enc)
#print axioms laddersame_holds
end Go.Proofs.Ythlmphloalbhnaa
