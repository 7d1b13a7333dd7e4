/-
  Contracts of ring: what is fresh, the key of an old key, Unlock.
-/
import Derived.Test.YtfckjilhkdlpfaaGreatDoorRkS
namespace Go.Proofs.YtfckjilhkdlpfaaGreatDoor
open Go.RowKit MS

set_option maxHeartbeats 400000 in
theorem rightFresh_any (f : Fre) (w : World) :
    Calls Tryz.prog 29 #[f.v] w fun e w' => e = .returned (.bool f.ok) ∧ Below w.heap.size w w' := by
  obtain ⟨salt, nonce, priv, rounds⟩ := f
  have hr := rightWrap_any salt nonce priv rounds
  have h0 : Fre.ok ⟨salt, nonce, priv, rounds⟩ = (rwB salt nonce rounds && priv.size == 32) := rfl
  rw [h0]
  clear h0
  unfold Fre.v
  simp only
  generalize rwB salt nonce rounds = b at *
  have HR := Lib.hid hr
  clear hr
  cases b
  · go_enter Tryz.func29, Tryz.ntmps29
    go_wp2_with fail
    refine (HR.out _).mono ?_
    rintro e w1 ⟨rfl, hb⟩
    obtain ⟨c1, f1, z1⟩ := own1 hb
    go_wp2_with fail
    go_ret
    exact ⟨rfl, below_chain (below_alloc (Below.refl _ _) _) hb⟩
  · go_enter Tryz.func29, Tryz.ntmps29
    go_wp2_with fail
    refine (HR.out _).mono ?_
    rintro e w1 ⟨rfl, hb⟩
    obtain ⟨c1, f1, z1⟩ := own1 hb
    go_wp2_with fail
    go_ret
    refine ⟨?_, below_chain (below_alloc (Below.refl _ _) _) hb⟩
    rw [Bool.true_and, ← show ((priv.size : Int) == 32) = (priv.size == 32) from beq_cast _ _]
    rfl

set_option maxHeartbeats 400000 in
theorem oldKey_any (k : ByteArray) (w : World) (hk : k.size ≤ 1000) (G : Glob w) :
    Calls Tryz.prog 38 #[.string k] w fun e w' => e = .returned (.tuple #[.string (undB k), .int .i64 0]) ∧ Below w.heap.size w w' := by
  have D := Lib.hid (draw_yes k ⟨#[]⟩ oldS 32 w (by omega) hk (by decide) (by decide) G)
  rw [show drawB k ⟨#[]⟩ oldS 32 = undB k from rfl, show oldS = ⟨#[111, 108, 100]⟩ from rfl] at D
  generalize undB k = u at *
  clear G hk
  go_enter Tryz.func38, Tryz.ntmps38
  go_wp2_with fail
  refine D.out.mono ?_
  rintro e w1 ⟨rfl, hb⟩
  go_wp2_with fail
  go_ret2
  exact ⟨rfl, hb⟩
end Go.Proofs.YtfckjilhkdlpfaaGreatDoor
