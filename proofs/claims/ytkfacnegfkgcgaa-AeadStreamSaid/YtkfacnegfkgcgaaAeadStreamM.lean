/-
  mailsacklaw07.AeadStream: what is sealed is turned by the stream; what goes with it turns the tag alone.
-/
import Derived.Test.YtkfacnegfkgcgaaRows
import Derived.Test.YtkfacnegfkgcgaaAeZ4
import Derived.ProofKit
import Derived.OpenShut
import Derived.ShutString
import Derived.ChangeOld
import Derived.Below
namespace Go.Proofs.Ytkfacnegfkgcgaa
open Go.ChangeShapes Go.WideShapes Go.ChangeAt Go.RowKit MS
open Go.ChangeMaps (open_string shut_string)

theorem aeadstream_own : ownKnob Try.prog.godebug = none := by kernel_rfl
theorem aeadstream_laid : laidOutB Try.prog = true := by kernel_rfl

set_option maxRecDepth 100000 in
theorem aeadstream_lifted (os : Os) (started : os.Started) (H : Type) (enc : TypeId × Value → H) :
    ReturnsInHanded {} Try.checked os 17 .any (Rows.aeadStreamSpec.pre6 enc Try.prog Try.f17 Rows.aeadStreamRow.domain false) (Rows.aeadStreamSpec.post enc Try.prog Try.f17 false true false false) := by
  refine returnsInHanded_of_change (C := Try.checked) aeadstream_own started (by kernel_rfl) Try.func17
    (ChangeSpec.witness6 (enc := enc) (C := Try.checked) false ⟨#[], #[.string ByteArray.empty, .string ByteArray.empty, .string ByteArray.empty, .string ByteArray.empty, .string ByteArray.empty], []⟩ 8 (by kernel_rfl) (by kernel_rfl) (by kernel_rfl) (by kernel_rfl)) ?_
  intro W base args ds gs before hval0 hW _ _
  have hval : ∀ (j : Nat) t v, Try.f17.params[j]? = some t → args[j]? = some v → Value.okWide Try.prog W .any base t v := hval0
  have hW' := hW
  obtain ⟨p, q, hA0, hV, rfl, _, _⟩ := hW
  have hA : DataW.TrodAll enc Try.prog W 0 (fun _ => true) true Try.f17.params.toList args.toList ds p := hA0
  rw [Try.params17] at hA hval
  obtain ⟨v0, vs0, d0, ds0, p0, q0, hargs, rfl, rfl, h0, r0⟩ := trodAll_cons hA
  obtain ⟨v1, vs1, d1, ds1, p1, q1, rfl, rfl, rfl, h1, r1⟩ := trodAll_cons r0
  obtain ⟨v2, vs2, d2, ds2, p2, q2, rfl, rfl, rfl, h2, r2⟩ := trodAll_cons r1
  obtain ⟨v3, vs3, d3, ds3, p3, q3, rfl, rfl, rfl, h3, r3⟩ := trodAll_cons r2
  obtain ⟨v4, vs4, d4, ds4, p4, q4, rfl, rfl, rfl, h4, r4⟩ := trodAll_cons r3
  obtain ⟨rfl, rfl, rfl⟩ := trodAll_nil r4
  obtain rfl : args = #[v0, v1, v2, v3, v4] := by cases args; simp_all
  obtain ⟨rfl, rfl⟩ := trodVars_none hV
  have lt0 : ∀ x ∈ p0, x.block < W.heap.size := by obtain ⟨m, hm⟩ := h0; exact DataW.trod_lt m _ _ _ hm
  have lt1 : ∀ x ∈ p1, x.block < W.heap.size := by obtain ⟨m, hm⟩ := h1; exact DataW.trod_lt m _ _ _ hm
  have lt2 : ∀ x ∈ p2, x.block < W.heap.size := by obtain ⟨m, hm⟩ := h2; exact DataW.trod_lt m _ _ _ hm
  have lt3 : ∀ x ∈ p3, x.block < W.heap.size := by obtain ⟨m, hm⟩ := h3; exact DataW.trod_lt m _ _ _ hm
  have lt4 : ∀ x ∈ p4, x.block < W.heap.size := by obtain ⟨m, hm⟩ := h4; exact DataW.trod_lt m _ _ _ hm
  obtain ⟨a0, e0⟩ : ∃ s : ByteArray, v0 = .string s := by
    obtain ⟨s, e, _⟩ := open_string Try.underlying9 (hval 0 9 v0 rfl rfl) h0
    exact ⟨s, e⟩
  obtain ⟨a1, e1⟩ : ∃ s : ByteArray, v1 = .string s := by
    obtain ⟨s, e, _⟩ := open_string Try.underlying9 (hval 1 9 v1 rfl rfl) h1
    exact ⟨s, e⟩
  obtain ⟨a2, e2⟩ : ∃ s : ByteArray, v2 = .string s := by
    obtain ⟨s, e, _⟩ := open_string Try.underlying9 (hval 2 9 v2 rfl rfl) h2
    exact ⟨s, e⟩
  obtain ⟨a3, e3⟩ : ∃ s : ByteArray, v3 = .string s := by
    obtain ⟨s, e, _⟩ := open_string Try.underlying9 (hval 3 9 v3 rfl rfl) h3
    exact ⟨s, e⟩
  obtain ⟨a4, e4⟩ : ∃ s : ByteArray, v4 = .string s := by
    obtain ⟨s, e, _⟩ := open_string Try.underlying9 (hval 4 9 v4 rfl rfl) h4
    exact ⟨s, e⟩
  clear hA0 hval0
  subst e0
  subst e1
  subst e2
  subst e3
  subst e4
  refine Calls.mono (aeadstream_any a0 a1 a2 a3 a4 W) fun e W' ⟨he, bel⟩ => ?_
  subst he
  exact ⟨_, rfl, _, _, _, [], _, [], hW', trodAll_mk1 (shut_bool Try.underlying4 _), (trodAll_cons_mk (Below.trod aeadstream_laid (by kernel_rfl) (of_decide_eq_true (by kernel_rfl)) h0 bel lt0) (trodAll_cons_mk (Below.trod aeadstream_laid (by kernel_rfl) (of_decide_eq_true (by kernel_rfl)) h1 bel lt1) (trodAll_cons_mk (Below.trod aeadstream_laid (by kernel_rfl) (of_decide_eq_true (by kernel_rfl)) h2 bel lt2) (trodAll_cons_mk (Below.trod aeadstream_laid (by kernel_rfl) (of_decide_eq_true (by kernel_rfl)) h3 bel lt3) (trodAll_cons_mk (Below.trod aeadstream_laid (by kernel_rfl) (of_decide_eq_true (by kernel_rfl)) h4 bel lt4) trodAll_mk0))))), rfl, bel.frame _, fun h => by cases h⟩

theorem aeadstream_holds : Rows.AeadStreamSaid :=
  OpenClaim.holds_of_wide 17 Try.f17 rfl rfl rfl rfl rfl rfl rfl ⟨rfl, rfl, rfl, rfl, rfl⟩ rfl rfl rfl rfl rfl (by kernel_rfl) Try.func17 (by kernel_rfl)
    (of_decide_eq_true (by kernel_rfl)) (by unfold Func.isWrapper; first | (rw [if_pos (by decide +kernel)]; kernel_rfl) | (rw [if_neg (by decide +kernel)]; exact ⟨rfl, rfl⟩))
    (fun os started H enc _ => aeadstream_lifted os started H enc)
#print axioms aeadstream_holds
end Go.Proofs.Ytkfacnegfkgcgaa
