import Derived.Test.YtkfacnegfkgcgaaTurnB
namespace Go.Proofs.Ytkfacnegfkgcgaa
open Go.RowKit MS
theorem run_index_row (t : Array W32) (hz : t.size = 16) (j : Nat) (hj : j < 16) (w : World) : (Instr.index 53 (.agg (rowW t)) (.int .i64 j)).run Try.prog w = .ok (.int .u32 (wv (t.getD j 0))) w := by
  have hn : (0 : Int) ≤ j ∧ (j : Int) < 16 := by omega
  have hi : (Try.prog.info? 22).map (·.size) = some 1 := by kernel_rfl
  have hjt : j < t.size := by omega
  cases hq : Try.prog.info? 22 with
  | none => simp [hq] at hi
  | some i =>
    have hs : i.size = 1 := by simpa [hq] using hi
    simp [Instr.index, run_underlying Try.underlying53, asIntOf, go_sem, sizeOf, typeInfo, hq, hs, hn]
    have hx : (rowW t)[j]? = some (.int .u32 (wv (t.getD j 0))) := by simp [rowW, hjt]
    rw [if_pos hj, hx]
    simp [hjt]
end Go.Proofs.Ytkfacnegfkgcgaa
