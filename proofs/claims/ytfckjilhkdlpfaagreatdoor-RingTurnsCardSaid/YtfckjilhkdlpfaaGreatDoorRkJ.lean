/-
  Folder 13's short (as in RkK, for the great door's seat).
-/
import Derived.Test.YtfckjilhkdlpfaaGreatDoorRkE
import Derived.Test.YtfckjilhkdlpfaaGreatDoorRkF
namespace Go.Proofs.YtfckjilhkdlpfaaGreatDoor
open Go.RowKit MS

/-- Are an account's texts, and what is drawn, short? -/
def short2 (a : Acc) (f : Fre) : Bool := decide (a.user.size ≤ 300 ∧ a.salt.size ≤ 100 ∧ a.pub.size ≤ 100 ∧ a.nonce.size ≤ 100 ∧ a.wrapped.size ≤ 100 ∧ a.old.size ≤ 400 ∧ f.salt.size ≤ 100 ∧ f.nonce.size ≤ 100 ∧ f.priv.size ≤ 100)
set_option maxRecDepth 1000000 in
set_option maxHeartbeats 2000000 in
theorem short2_any (a : Acc) (f : Fre) (w : World) :
    Calls Tryz.prog 7 #[a.v, f.v] w fun e w' => e = .returned (.bool (short2 a f)) ∧ Below w.heap.size w w' := by
  obtain ⟨user, salt, rounds, epoch, pub, nonce, wrapped, old⟩ := a
  obtain ⟨fs, fn, fp, fr⟩ := f
  unfold Acc.v Fre.v
  simp only
  go_enter Tryz.func7, Tryz.ntmps7
  go_wp2_with fail
  all_goals
    go_ret
    refine ⟨?_, below_alloc (below_alloc (Below.refl _ _) _) _⟩
    unfold short2
    simp [*]
    try first
      | omega
      | (rw [Bool.eq_iff_iff]; simp; omega)
theorem rwFF (w : World) (fs fn fp : ByteArray) (fr : Int) (gs gn gp : ByteArray) (gr : Int) (TF TG : TypeId) :
    Rw w [(w.heap.size, freA fs fn fp fr, TF), (w.heap.size + 1, freA gs gn gp gr, TG)]
      ((w.alloc (.cells #[.string fs, .string fn, .string fp, .int .i64 fr] TF (0, 0))).alloc (.cells #[.string gs, .string gn, .string gp, .int .i64 gr] TG (0, 0))) := by
  have h := ((Rw.nil w).alloc (freA fs fn fp fr) TF).alloc (freA gs gn gp gr) TG
  simp only [World.size_alloc] at h
  exact h

end Go.Proofs.YtfckjilhkdlpfaaGreatDoor
