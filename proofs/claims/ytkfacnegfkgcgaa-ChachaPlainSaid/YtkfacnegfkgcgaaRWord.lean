/-
  mailsackref05.word: four bytes, the lowest first.
-/
import Derived.Test.YtkfacnegfkgcgaaFill
namespace Go.Proofs.Ytkfacnegfkgcgaa
open Go.RowKit MS

theorem sum_le4 (a b c d : Nat) (hb : b < 256) (hc : c < 256) (hd : d < 256) :
    ((((a : Int) + 256 * ((b : Int) % 4294967296) + 65536 * ((c : Int) % 4294967296)) % 4294967296 + 16777216 * ((d : Int) % 4294967296) % 4294967296) % 4294967296) = wv (BitVec.ofNat 32 (a + 256 * b + 65536 * c + 16777216 * d)) := by
  unfold wv
  rw [BitVec.toNat_ofNat, Int.natCast_emod]
  have e : ((a + 256 * b + 65536 * c + 16777216 * d : Nat) : Int) = (a : Int) + 256 * b + 65536 * c + 16777216 * d := by
    rw [Int.natCast_add, Int.natCast_add, Int.natCast_add, Int.natCast_mul, Int.natCast_mul, Int.natCast_mul]; rfl
  rw [e]
  have hb' : (b : Int) % 4294967296 = b := Int.emod_eq_of_lt (by omega) (by omega)
  have hc' : (c : Int) % 4294967296 = c := Int.emod_eq_of_lt (by omega) (by omega)
  have hd' : (d : Int) % 4294967296 = d := Int.emod_eq_of_lt (by omega) (by omega)
  rw [hb', hc', hd', ← Int.add_emod]
  rfl
theorem byt_get (s : ByteArray) (p : Nat) (h : p < s.size) : byt s p = (s[p]'h).toNat := by
  have hl : p < s.data.toList.length := by simpa using h
  unfold byt
  rw [List.getD_eq_getElem?_getD, List.getElem?_eq_getElem hl]
  rfl

set_option maxHeartbeats 400000 in
theorem word_any (s : ByteArray) (i : Nat) (h : 4 * i + 4 ≤ s.size) (hi : i < 1000) (w : World) :
    Calls Try.prog 37 #[.string s, .int .i64 (4 * (i : Int))] w fun e w' => e = .returned (.int .u32 (wv (leW s i))) ∧ ∃ k, w' = w.drewN k := by
  have j0 : (0 : Int) ≤ 4 * (i : Int) := by omega
  have j1 : (0 : Int) ≤ 4 * (i : Int) + 1 := by omega
  have j2 : (0 : Int) ≤ 4 * (i : Int) + 2 := by omega
  have j3 : (0 : Int) ≤ 4 * (i : Int) + 3 := by omega
  have l0 : 4 * (i : Int) < s.size := by omega
  have l1 : 4 * (i : Int) + 1 < s.size := by omega
  have l2 : 4 * (i : Int) + 2 < s.size := by omega
  have l3 : 4 * (i : Int) + 3 < s.size := by omega
  have ib : (i : Int) < 1000 := by omega
  have H := Lib.hid h
  have HI := Lib.hid hi
  clear h hi
  go_enter Try.func37, Try.ntmps37
  go_wp2
  go_quiet (fail)
  go_wp2
  go_ret
  refine ⟨?_, _, rfl⟩
  have h := H.out
  have z := sum_le4 (s[4 * i]'(by omega)).toNat (s[4 * i + 1]'(by omega)).toNat (s[4 * i + 2]'(by omega)).toNat (s[4 * i + 3]'(by omega)).toNat (s[4 * i + 1]'(by omega)).toNat_lt (s[4 * i + 2]'(by omega)).toNat_lt (s[4 * i + 3]'(by omega)).toNat_lt
  rw [leW, byt_get s (4 * i) (by omega), byt_get s (4 * i + 1) (by omega), byt_get s (4 * i + 2) (by omega), byt_get s (4 * i + 3) (by omega), ← z]
  rfl
end Go.Proofs.Ytkfacnegfkgcgaa
