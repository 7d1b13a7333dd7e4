/-
  The law SealSizes as the frame takes it.
-/
import Derived.Test.YtfckjilhkdlpfaaDoorSeU
import Derived.Test.YtfckjilhkdlpfaaDoorSeP
namespace Go.Proofs.YtfckjilhkdlpfaaDoor
open Go.RowKit MS

set_option maxRecDepth 1000000 in
set_option maxHeartbeats 1000000 in
theorem sizes_a (p o s t : ByteArray) (w : World) (K : Cls w) (hp : p.size ≠ 32) :
    Calls Tryd.prog 8 #[.string p, .string o, .string s, .string t] w fun e w' => e = .returned (.bool true) ∧ Below w.heap.size w w' := by
  have AWK := Lib.hid awake08
  have HK := Lib.hid K
  have p2 : ((p.size : Int) != 32) = true := by simp; omega
  have p3 : ¬ (p.size : Int) = 32 := by omega
  clear hp K
  go_enter Tryd.func8, Tryd.ntmps8
  go_wp2_with fail
  refine (AWK.out _ HK.out).mono ?_
  rintro e w1 ⟨rfl, hb1⟩
  go_wp2_with fail
  go_ret
  exact ⟨rfl, hb1⟩
set_option maxRecDepth 1000000 in
set_option maxHeartbeats 1000000 in
theorem sizes_b (p o s t : ByteArray) (w : World) (K : Cls w) (hp : p.size = 32) (ho : o.size ≠ 32) :
    Calls Tryd.prog 8 #[.string p, .string o, .string s, .string t] w fun e w' => e = .returned (.bool true) ∧ Below w.heap.size w w' := by
  have AWK := Lib.hid awake08
  have HK := Lib.hid K
  have p2 : ((p.size : Int) != 32) = false := by simp; omega
  have o2 : ((o.size : Int) != 32) = true := by simp; omega
  have p3 : (p.size : Int) = 32 := by omega
  have o3 : ¬ (o.size : Int) = 32 := by omega
  clear hp ho K
  go_enter Tryd.func8, Tryd.ntmps8
  go_wp2_with fail
  refine (AWK.out _ HK.out).mono ?_
  rintro e w1 ⟨rfl, hb1⟩
  go_wp2_with fail
  go_ret
  exact ⟨rfl, hb1⟩
set_option maxRecDepth 1000000 in
set_option maxHeartbeats 1000000 in
theorem sizes_c (p o s t : ByteArray) (w : World) (K : Cls w) (hp : p.size = 32) (ho : o.size = 32) (hs : 700 < s.size) :
    Calls Tryd.prog 8 #[.string p, .string o, .string s, .string t] w fun e w' => e = .returned (.bool true) ∧ Below w.heap.size w w' := by
  have AWK := Lib.hid awake08
  have HK := Lib.hid K
  have p2 : ((p.size : Int) != 32) = false := by simp; omega
  have o2 : ((o.size : Int) != 32) = false := by simp; omega
  have p3 : (p.size : Int) = 32 := by omega
  have o3 : (o.size : Int) = 32 := by omega
  have s2 : (s.size : Int) > 700 := by omega
  clear hp ho hs K
  go_enter Tryd.func8, Tryd.ntmps8
  go_wp2_with fail
  refine (AWK.out _ HK.out).mono ?_
  rintro e w1 ⟨rfl, hb1⟩
  go_wp2_with fail
  go_ret
  exact ⟨rfl, hb1⟩
set_option maxRecDepth 1000000 in
set_option maxHeartbeats 1000000 in
theorem sizes_d (p o s t : ByteArray) (w : World) (K : Cls w) (hp : p.size = 32) (ho : o.size = 32) (hs : s.size ≤ 700) (ht : 700 < t.size) :
    Calls Tryd.prog 8 #[.string p, .string o, .string s, .string t] w fun e w' => e = .returned (.bool true) ∧ Below w.heap.size w w' := by
  have AWK := Lib.hid awake08
  have HK := Lib.hid K
  have p2 : ((p.size : Int) != 32) = false := by simp; omega
  have o2 : ((o.size : Int) != 32) = false := by simp; omega
  have p3 : (p.size : Int) = 32 := by omega
  have o3 : (o.size : Int) = 32 := by omega
  have s2 : ¬ (s.size : Int) > 700 := by omega
  have t2 : (t.size : Int) > 700 := by omega
  clear hp ho hs ht K
  go_enter Tryd.func8, Tryd.ntmps8
  go_wp2_with fail
  refine (AWK.out _ HK.out).mono ?_
  rintro e w1 ⟨rfl, hb1⟩
  go_wp2_with fail
  go_ret
  exact ⟨rfl, hb1⟩
theorem sizes_ok (p o s t : ByteArray) (w : World) (h : laidMetH Tryd.prog laid3 w) :
    Calls Tryd.prog 8 #[.string p, .string o, .string s, .string t] w fun e w' => e = .returned (.bool true) ∧ Below w.heap.size w w' := by
  have K := cls_of_laid h
  have G := glob_of_laid3 h
  by_cases hp : p.size = 32
  · by_cases ho : o.size = 32
    · by_cases hs : 700 < s.size
      · exact sizes_c p o s t w K hp ho hs
      · by_cases ht : 700 < t.size
        · exact sizes_d p o s t w K hp ho (by omega) ht
        · exact sizes_in p o s t w K G hp ho (by omega) (by omega)
    · exact sizes_b p o s t w K hp ho
  · exact sizes_a p o s t w K hp
end Go.Proofs.YtfckjilhkdlpfaaDoor
