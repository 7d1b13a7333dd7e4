/-
  The law SealBack.
-/
import Derived.Test.YtfckjilhkdlpfaaDoorSeR
namespace Go.Proofs.YtfckjilhkdlpfaaDoor
open Go.RowKit MS

set_option maxRecDepth 1000000 in
set_option maxHeartbeats 1000000 in
theorem back_law (p o s : ByteArray) (w : World) (K : Cls w) (G : Glob w) :
    Calls Tryd.prog 9 #[.string p, .string o, .string s] w fun e w' => e = .returned (.bool true) ∧ Below w.heap.size w w' := by
  have AWK := Lib.hid awake08
  have HK := Lib.hid K
  have HG := Lib.hid G
  clear K G
  by_cases hp : p.size = 32
  · have p2 : ((p.size : Int) != 32) = false := by simp; omega
    have p3 : (p.size : Int) = 32 := by omega
    by_cases ho : o.size = 32
    · have o2 : ((o.size : Int) != 32) = false := by simp; omega
      have o3 : (o.size : Int) = 32 := by omega
      by_cases h7 : 700 < s.size
      · have s2 : (s.size : Int) > 700 := by omega
        clear hp ho h7
        go_enter Tryd.func9, Tryd.ntmps9
        go_wp2_with fail
        refine (AWK.out _ HK.out).mono ?_
        rintro e w1 ⟨rfl, hb1⟩
        go_wp2_with fail
        go_ret
        exact ⟨rfl, hb1⟩
      · have s2 : ¬ (s.size : Int) > 700 := by omega
        have U := Lib.hid (fun w => public_yes p w hp)
        have B := Lib.hid (fun w K G => box_yes (xB p baseB) o s w K G ho (size_xB _ _) (by omega))
        have hz := size_boxB (xB p baseB) o s (by omega)
        have hcl := clsN_le s.size
        have O := Lib.hid (fun w K G => sopen_any p (boxB (xB p baseB) o s) w K G hp (by omega))
        rw [sopen_back p o s hp ho (by omega)] at O
        have C := Lib.hid (fun w K => class_any (s.size : Int) w K)
        rw [clsI_nat _ (by omega)] at C
        generalize boxB (xB p baseB) o s = b at *
        generalize xB p baseB = x at *
        generalize clsN s.size = c at *
        have z1 : (b.size : Int) = 48 + (c : Int) := by omega
        have z2 : (c : Int) ≤ 704 := by omega
        have z3 : (0 : Int) ≤ (c : Int) := by omega
        clear hp ho h7 hz hcl
        go_enter Tryd.func9, Tryd.ntmps9
        go_wp2_with fail
        refine (U.out _).mono ?_
        rintro e w1 ⟨rfl, hb⟩
        have B1 := Lib.hid hb
        have K1 := Lib.hid (HK.out.on B1.out)
        have G1 := Lib.hid (HG.out.on B1.out)
        clear hb
        go_wp2_with fail
        refine (B.out _ K1.out G1.out).mono ?_
        rintro e w2 ⟨rfl, hb⟩
        have B2 := Lib.hid (B1.out.trans (hb.mono B1.out.size))
        have K2 := Lib.hid (HK.out.on B2.out)
        have G2 := Lib.hid (HG.out.on B2.out)
        clear hb
        go_wp2_with fail
        refine (O.out _ K2.out G2.out).mono ?_
        rintro e w3 ⟨rfl, hb⟩
        have B3 := Lib.hid (B2.out.trans (hb.mono B2.out.size))
        have K3 := Lib.hid (HK.out.on B3.out)
        clear hb
        go_wp2_with fail
        refine (C.out _ K3.out).mono ?_
        rintro e w4 ⟨rfl, rfl⟩
        go_wp2_with fail
        refine (AWK.out _ K3.out).mono ?_
        rintro e w5 ⟨rfl, hb⟩
        go_wp2_with fail
        go_ret
        exact ⟨rfl, B3.out.trans (hb.mono B3.out.size)⟩
    · have o2 : ((o.size : Int) != 32) = true := by simp; omega
      have o3 : ¬ (o.size : Int) = 32 := by omega
      clear hp ho
      go_enter Tryd.func9, Tryd.ntmps9
      go_wp2_with fail
      refine (AWK.out _ HK.out).mono ?_
      rintro e w1 ⟨rfl, hb1⟩
      go_wp2_with fail
      go_ret
      exact ⟨rfl, hb1⟩
  · have p2 : ((p.size : Int) != 32) = true := by simp; omega
    have p3 : ¬ (p.size : Int) = 32 := by omega
    clear hp
    go_enter Tryd.func9, Tryd.ntmps9
    go_wp2_with fail
    refine (AWK.out _ HK.out).mono ?_
    rintro e w1 ⟨rfl, hb1⟩
    go_wp2_with fail
    go_ret
    exact ⟨rfl, hb1⟩
end Go.Proofs.YtfckjilhkdlpfaaDoor
