/-
  Numbers of fe in a walk: five limbs; fe.narrow.
-/
import Derived.Test.YthlmphloalbhnaaProg
import Derived.Test.YthlmphloalbhnaaKit
import Derived.Test.YthlmphloalbhnaaFeP
import Derived.Laws.Rows
import Derived.Laws.BitsAllLaws
import Derived.Laws.ResultCell
namespace Go.Proofs.Ythlmphloalbhnaa
open Go.RowKit MS

/-- A number's five cells. -/
def nvA (x : N5) : Array Value := #[.int .u64 (x.a : Int), .int .u64 (x.b : Int), .int .u64 (x.c : Int), .int .u64 (x.d : Int), .int .u64 (x.e : Int)]
theorem and51 (a : Nat) (h : a < 18446744073709551616) : bits .and .u64 (a : Int) 2251799813685247 = ((a % 2251799813685248 : Nat) : Int) := by
  have := u64_and_nat a 2251799813685247 h (by decide)
  rw [show ((2251799813685247 : Nat) : Int) = 2251799813685247 from rfl] at this
  rw [this, show (2251799813685247 : Nat) = 2 ^ 51 - 1 from rfl, Nat.and_two_pow_sub_one_eq_mod]
theorem shr51 (a : Nat) : (a : Int) / 2251799813685248 = ((a / 2251799813685248 : Nat) : Int) := by omega

set_option maxRecDepth 100000 in
set_option maxHeartbeats 1000000 in
theorem narrow_any (x : N5) (hx : x.ok) (w : World) :
    Calls Try.prog 39 #[.agg (nvA x)] w fun e w' => e = .returned (.agg (nvA (narrow x))) ∧ Below w.heap.size w w' := by
  obtain ⟨a, b, c, d, e⟩ := x
  obtain ⟨ha, hb, hc, hd, he⟩ := hx
  simp only at ha hb hc hd he
  have a0 := and51 a ha
  have b0 := and51 b hb
  have c0 := and51 c hc
  have d0 := and51 d hd
  have e0 := and51 e he
  have a1 := shr51 a
  have b1 := shr51 b
  have c1 := shr51 c
  have d1 := shr51 d
  have e1 := shr51 e
  have HR := Lib.hid (show nvA (narrow ⟨a, b, c, d, e⟩) = nvA ⟨a % 2251799813685248 + 19 * (e / 2251799813685248), b % 2251799813685248 + a / 2251799813685248, c % 2251799813685248 + b / 2251799813685248, d % 2251799813685248 + c / 2251799813685248, e % 2251799813685248 + d / 2251799813685248⟩ from rfl)
  have la : a % 2251799813685248 < 2251799813685248 := Nat.mod_lt _ (by decide)
  have lb : b % 2251799813685248 < 2251799813685248 := Nat.mod_lt _ (by decide)
  have lc : c % 2251799813685248 < 2251799813685248 := Nat.mod_lt _ (by decide)
  have ld : d % 2251799813685248 < 2251799813685248 := Nat.mod_lt _ (by decide)
  have le : e % 2251799813685248 < 2251799813685248 := Nat.mod_lt _ (by decide)
  have ma : a / 2251799813685248 < 8192 := by omega
  have mb : b / 2251799813685248 < 8192 := by omega
  have mc : c / 2251799813685248 < 8192 := by omega
  have md : d / 2251799813685248 < 8192 := by omega
  have me : e / 2251799813685248 < 8192 := by omega
  generalize a % 2251799813685248 = al at *
  generalize b % 2251799813685248 = bl at *
  generalize c % 2251799813685248 = cl at *
  generalize d % 2251799813685248 = dl at *
  generalize e % 2251799813685248 = el at *
  generalize a / 2251799813685248 = ah at *
  generalize b / 2251799813685248 = bh at *
  generalize c / 2251799813685248 = ch at *
  generalize d / 2251799813685248 = dh at *
  generalize e / 2251799813685248 = eh at *
  clear ha hb hc hd he
  rw [HR.out]
  unfold nvA
  simp only
  go_enter Try.func39, Try.ntmps39
  go_wp2_with fail
  exact bodyPost_ret (v := .agg #[.int .u64 ((al : Int) + 19 * (eh : Int)), .int .u64 ((bl : Int) + (ah : Int)), .int .u64 ((cl : Int) + (bh : Int)), .int .u64 ((dl : Int) + (ch : Int)), .int .u64 ((el : Int) + (dh : Int))]) (by simp [results, Try.results39, go_sem]) rfl ⟨rfl, ((Below.refl _ _).alloc (Nat.le_refl _) _).alloc (by simp) _⟩
end Go.Proofs.Ythlmphloalbhnaa
