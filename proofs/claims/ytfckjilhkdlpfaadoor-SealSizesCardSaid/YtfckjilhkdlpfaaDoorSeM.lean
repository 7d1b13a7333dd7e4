/-
  mailsackref08.Box, and the law SealBoxes.
-/
import Derived.Test.YtfckjilhkdlpfaaDoorSeK
namespace Go.Proofs.YtfckjilhkdlpfaaDoor
open Go.RowKit MS

set_option maxRecDepth 1000000 in
set_option maxHeartbeats 1000000 in
theorem rbox_any (p o s : ByteArray) (w : World) (ho : o.size = 32) (hp : p.size = 32) (hs : s.size ≤ 700) : Calls Tryd.prog 26 #[.string p, .string o, .string s] w fun e w' => e = .returned (.string (boxB p o s)) ∧ Below w.heap.size w w' := by
  have A := Lib.hid (fun w => rbase_any w)
  have C := Lib.hid (fun w => rpoint_any o baseB w ho size_baseB)
  have C2 := Lib.hid (fun w => rpoint_any o p w ho hp)
  have P := Lib.hid (fun w => rpad_any s w hs)
  have hx := size_xB o p
  have hy := size_xB o baseB
  have D := Lib.hid (fun w => rkeys_any (xB o p) (xB o baseB) p w (by omega) (by omega) (by omega))
  have hbz := size_bothB (xB o p) (xB o baseB ++ p)
  have HBX := Lib.hid (show boxB p o s = xB o baseB ++ sealA ((bothB (xB o p) (xB o baseB ++ p)).extract 0 32) ((bothB (xB o p) (xB o baseB ++ p)).extract 32 44) ⟨#[]⟩ (spadB s) from rfl)
  have hps := size_spadB s hs
  have hcl := clsN_le s.size
  have hk1 : ((bothB (xB o p) (xB o baseB ++ p)).extract 0 32).size = 32 := by rw [ByteArray.size_extract]; omega
  have hk2 : ((bothB (xB o p) (xB o baseB ++ p)).extract 32 44).size = 12 := by rw [ByteArray.size_extract]; omega
  have S := Lib.hid (fun w => rsealA_any ((bothB (xB o p) (xB o baseB ++ p)).extract 0 32) ((bothB (xB o p) (xB o baseB ++ p)).extract 32 44) ⟨#[]⟩ (spadB s) w hk1 hk2 (by decide) (by omega))
  have hsz := size_sealA ((bothB (xB o p) (xB o baseB ++ p)).extract 0 32) ((bothB (xB o p) (xB o baseB ++ p)).extract 32 44) ⟨#[]⟩ (spadB s)
  rw [HBX.out]
  clear HBX
  generalize sealA ((bothB (xB o p) (xB o baseB ++ p)).extract 0 32) ((bothB (xB o p) (xB o baseB ++ p)).extract 32 44) ⟨#[]⟩ (spadB s) = z at *
  generalize (bothB (xB o p) (xB o baseB ++ p)).extract 0 32 = k1 at *
  generalize (bothB (xB o p) (xB o baseB ++ p)).extract 32 44 = k2 at *
  generalize xB o p = x at *
  generalize xB o baseB = y at *
  generalize spadB s = q at *
  have y1 : (y.size : Int) = 32 := by omega
  have z1 : (z.size : Int) ≤ 1000 := by omega
  clear ho hp hs hx hy hbz hps hcl hk1 hk2 hsz
  go_enter Tryd.func26, Tryd.ntmps26
  go_wp2_with fail
  refine (A.out _).mono ?_
  rintro e w1 ⟨rfl, hb⟩
  have B := Lib.hid hb
  clear hb
  go_wp2_with fail
  refine (C.out _).mono ?_
  rintro e w2 ⟨rfl, hb⟩
  have B2 := Lib.hid (B.out.trans (hb.mono B.out.size))
  clear hb
  go_wp2_with fail
  refine (C2.out _).mono ?_
  rintro e w3 ⟨rfl, hb⟩
  have B3 := Lib.hid (B2.out.trans (hb.mono B2.out.size))
  clear hb
  go_wp2_with fail
  refine (D.out _).mono ?_
  rintro e w4 ⟨rfl, hb⟩
  have B4 := Lib.hid (B3.out.trans (hb.mono B3.out.size))
  clear hb
  go_wp2_with fail
  refine (P.out _).mono ?_
  rintro e w5 ⟨rfl, hb⟩
  have B5 := Lib.hid (B4.out.trans (hb.mono B4.out.size))
  clear hb
  go_wp2_with fail
  refine (S.out _).mono ?_
  rintro e w6 ⟨rfl, hb⟩
  have B6 := Lib.hid (B5.out.trans (hb.mono B5.out.size))
  clear hb
  go_wp2_with fail
  go_ret
  exact ⟨rfl, B6.out⟩
end Go.Proofs.YtfckjilhkdlpfaaDoor
