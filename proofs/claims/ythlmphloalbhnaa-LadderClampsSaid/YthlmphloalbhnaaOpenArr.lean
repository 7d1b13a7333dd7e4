/-
  Opening an argument that is an array of whole numbers by value.
-/
import Derived.ProofKit
import Derived.OpenShut
import Derived.ChangeOld
import Derived.Below
import Derived.Test.YthlmphloalbhnaaWord
namespace Go.Proofs.Ythlmphloalbhnaa
open Go.ChangeShapes Go.WideShapes Go.ChangeAt Go.RowKit MS

section
variable {H : Type} {enc : TypeId × Value → H} {P : Program} {w : World} {base b0 : Nat} {spare : Nat → Bool} {held : Bool} {r : Reach} {t e : TypeId} {n : Nat} {k : IntKind} {v : Value} {d : DataW H} {ps : List MemPlace}
theorem open_array (ht : P.underlying t = some (.array n e)) (he : P.underlying e = some (.int k)) (hc : P.cellsOf e = 1) (hn : P.cellsOf t = n)
    (hval : Value.okWide P w r b0 t v) (hd : DataW.Trod enc P w base spare held t v d ps) :
    ∃ cs : Array Value, v = .agg cs ∧ cs.size = n ∧ ∀ i, i < n → ∃ m, cs[i]? = some (.int k m) ∧ (Lit.int k m).wf = true := by
  unfold Value.okWide at hval
  simp only [ht] at hval
  obtain ⟨cs, rfl, hs, _⟩ := hval
  obtain ⟨fuel, hf⟩ := hd
  obtain ⟨xs, m, _, _, _, hxl, hx⟩ := DataW.trod_array ht hf
  refine ⟨cs, rfl, by rw [hs, hn], fun i hi => ?_⟩
  have h1 := hx i hi
  rw [List.getElem?_eq_getElem (by omega)] at h1
  obtain ⟨q, h2, _, h3⟩ := DataW.trod_int he h1
  refine ⟨q, ?_, h3⟩
  rw [hc, Nat.mul_one] at h2
  have h4 : ((cs.toList.drop i).take 1)[0]? = some (.int k q) := by
    have : (Value.agg cs).cells = cs := rfl
    rw [this] at h2
    rw [h2]; rfl
  rw [List.getElem?_take_of_lt (by omega), List.getElem?_drop] at h4
  simpa using h4
end

theorem open_w32 {P : Program} {w : World} {base b0 : Nat} {spare : Nat → Bool} {held : Bool} {r : Reach} {t e : TypeId} {n : Nat} {v : Value} {H : Type} {enc : TypeId × Value → H} {d : DataW H} {ps : List MemPlace}
    (ht : P.underlying t = some (.array n e)) (he : P.underlying e = some (.int .u32)) (hc : P.cellsOf e = 1) (hn : P.cellsOf t = n)
    (hval : Value.okWide P w r b0 t v) (hd : DataW.Trod enc P w base spare held t v d ps) : ∃ a : Array W32, a.size = n ∧ v = .agg (a.map fun x => .int .u32 (wv x)) := by
  obtain ⟨cs, rfl, hs, hi⟩ := open_array ht he hc hn hval hd
  refine ⟨cs.map fun v => match v with | .int _ m => BitVec.ofNat 32 m.toNat | _ => 0, by simp [hs], ?_⟩
  congr 1
  apply Array.ext
  · simp
  · intro i h1 h2
    obtain ⟨m, hm, hw⟩ := hi i (by omega)
    have bd := bounds_u32 hw
    have h3 : cs[i] = .int .u32 m := by
      rw [Array.getElem?_eq_getElem h1] at hm; exact Option.some.inj hm
    simp only [Array.getElem_map, h3]
    congr 1
    unfold wv; rw [BitVec.toNat_ofNat]; omega

theorem open_w64 {P : Program} {w : World} {base b0 : Nat} {spare : Nat → Bool} {held : Bool} {r : Reach} {t e : TypeId} {n : Nat} {v : Value} {H : Type} {enc : TypeId × Value → H} {d : DataW H} {ps : List MemPlace}
    (ht : P.underlying t = some (.array n e)) (he : P.underlying e = some (.int .u64)) (hc : P.cellsOf e = 1) (hn : P.cellsOf t = n)
    (hval : Value.okWide P w r b0 t v) (hd : DataW.Trod enc P w base spare held t v d ps) : ∃ a : Array Nat, a.size = n ∧ (∀ i, a.getD i 0 < 18446744073709551616) ∧ v = .agg (a.map fun (x : Nat) => .int .u64 (x : Int)) := by
  obtain ⟨cs, rfl, hs, hi⟩ := open_array ht he hc hn hval hd
  have key : ∀ i (h : i < cs.size), ∃ m : Int, cs[i] = .int .u64 m ∧ 0 ≤ m ∧ m ≤ 18446744073709551615 := fun i h => by
    obtain ⟨m, hm, hw⟩ := hi i (by omega)
    have bd := bounds_u64 hw
    exact ⟨m, by rw [Array.getElem?_eq_getElem h] at hm; exact Option.some.inj hm, bd⟩
  refine ⟨cs.map fun v => match v with | .int _ m => m.toNat | _ => 0, by simp [hs], fun i => ?_, ?_⟩
  · by_cases h : i < cs.size
    · obtain ⟨m, h3, h4, h5⟩ := key i h
      simp only [Array.getD, Array.size_map, h, dif_pos, Array.getInternal_eq_getElem, Array.getElem_map, h3]
      omega
    · simp [Array.getD, h]
  · congr 1
    apply Array.ext
    · simp
    · intro i h1 h2
      obtain ⟨m, h3, h4, h5⟩ := key i h1
      simp only [Array.getElem_map, h3]
      congr 1
      omega
end Go.Proofs.Ythlmphloalbhnaa
