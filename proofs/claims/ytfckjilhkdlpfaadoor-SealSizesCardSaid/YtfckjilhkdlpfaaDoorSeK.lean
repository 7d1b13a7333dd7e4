/-
  seal.Box, mailsackref08.Box: the walks.
-/
import Derived.Test.YtfckjilhkdlpfaaDoorSeJ
namespace Go.Proofs.YtfckjilhkdlpfaaDoor
open Go.RowKit MS

/-- A box. -/
def boxB (p o s : ByteArray) : ByteArray :=
  xB o baseB ++ sealA ((bothB (xB o p) (xB o baseB ++ p)).extract 0 32) ((bothB (xB o p) (xB o baseB ++ p)).extract 32 44) ⟨#[]⟩ (spadB s)

set_option maxRecDepth 1000000 in
set_option maxHeartbeats 1000000 in
theorem box_no2 (p o s : ByteArray) (w : World) (ho : o.size = 32) (hp : p.size ≠ 32) : Calls Tryd.prog 25 #[.string p, .string o, .string s] w fun e w' => e = .returned (.tuple #[.string ⟨#[]⟩, .int .i64 1]) ∧ Below w.heap.size w w' := by
  have C := Lib.hid (fun w => point_no2 o p w ho hp)
  clear ho hp
  go_enter Tryd.func25, Tryd.ntmps25
  go_wp2_with fail
  refine (C.out _).mono ?_
  rintro e w1 ⟨rfl, hb⟩
  have B := Lib.hid hb
  clear hb
  go_wp2_with fail
  go_ret2
  exact ⟨rfl, B.out⟩
set_option maxRecDepth 1000000 in
set_option maxHeartbeats 1000000 in
theorem box_no3 (p o s : ByteArray) (w : World) (K : Cls w) (ho : o.size = 32) (hp : p.size = 32) (hs : 700 < s.size) (hb : s.size ≤ 100000) : Calls Tryd.prog 25 #[.string p, .string o, .string s] w fun e w' => e = .returned (.tuple #[.string ⟨#[]⟩, .int .i64 4]) ∧ Below w.heap.size w w' := by
  have C := Lib.hid (fun w => point_yes o p w ho hp)
  have P := Lib.hid (fun w K => pad_no s w K hs hb)
  have HK := Lib.hid K
  clear ho hp hs hb K
  generalize xB o p = x at *
  go_enter Tryd.func25, Tryd.ntmps25
  go_wp2_with fail
  refine (C.out _).mono ?_
  rintro e w1 ⟨rfl, hb⟩
  have B := Lib.hid hb
  have K1 := Lib.hid (HK.out.on B.out)
  clear hb
  go_wp2_with fail
  refine (P.out _ K1.out).mono ?_
  rintro e w2 ⟨rfl, rfl⟩
  go_wp2_with fail
  go_ret2
  exact ⟨rfl, B.out⟩
theorem Glob.onS {w w' : World} (h : Glob w) (hb : Below w.heap.size w w') : Glob w' := h.on hb
set_option maxRecDepth 1000000 in
set_option maxHeartbeats 1000000 in
theorem box_yes (p o s : ByteArray) (w : World) (K : Cls w) (G : Glob w) (ho : o.size = 32) (hp : p.size = 32) (hs : s.size ≤ 700) : Calls Tryd.prog 25 #[.string p, .string o, .string s] w fun e w' => e = .returned (.tuple #[.string (boxB p o s), .int .i64 0]) ∧ Below w.heap.size w w' := by
  have C := Lib.hid (fun w => point_yes o p w ho hp)
  have P := Lib.hid (fun w K => pad_yes s w K hs)
  have U := Lib.hid (fun w => public_yes o w ho)
  have hx := size_xB o p
  have hy := size_xB o baseB
  have D := Lib.hid (fun w G => derive_any (xB o p) (xB o baseB ++ p) w (by omega) (by rw [ByteArray.size_append]; omega) G)
  have hbz := size_bothB (xB o p) (xB o baseB ++ p)
  have HBX := Lib.hid (show boxB p o s = xB o baseB ++ sealA ((bothB (xB o p) (xB o baseB ++ p)).extract 0 32) ((bothB (xB o p) (xB o baseB ++ p)).extract 32 44) ⟨#[]⟩ (spadB s) from rfl)
  have hps := size_spadB s hs
  have hcl := clsN_le s.size
  have hk1 : ((bothB (xB o p) (xB o baseB ++ p)).extract 0 32).size = 32 := by rw [ByteArray.size_extract]; omega
  have hk2 : ((bothB (xB o p) (xB o baseB ++ p)).extract 32 44).size = 12 := by rw [ByteArray.size_extract]; omega
  have S := Lib.hid (fun w => aseal_yes ((bothB (xB o p) (xB o baseB ++ p)).extract 0 32) ((bothB (xB o p) (xB o baseB ++ p)).extract 32 44) ⟨#[]⟩ (spadB s) w hk1 hk2 (by decide) (by omega))
  have hsz := size_sealA ((bothB (xB o p) (xB o baseB ++ p)).extract 0 32) ((bothB (xB o p) (xB o baseB ++ p)).extract 32 44) ⟨#[]⟩ (spadB s)
  rw [HBX.out]
  clear HBX
  generalize sealA ((bothB (xB o p) (xB o baseB ++ p)).extract 0 32) ((bothB (xB o p) (xB o baseB ++ p)).extract 32 44) ⟨#[]⟩ (spadB s) = z at *
  generalize (bothB (xB o p) (xB o baseB ++ p)).extract 0 32 = k1 at *
  generalize (bothB (xB o p) (xB o baseB ++ p)).extract 32 44 = k2 at *
  generalize xB o p = x at *
  generalize xB o baseB = y at *
  generalize spadB s = q at *
  have y1 : (y.size : Int) = 32 := by omega
  have p1 : (p.size : Int) = 32 := by omega
  have z1 : (z.size : Int) ≤ 1000 := by omega
  have HK := Lib.hid K
  have HG := Lib.hid G
  clear ho hp hs K G hx hy hbz hps hcl hk1 hk2 hsz
  go_enter Tryd.func25, Tryd.ntmps25
  go_wp2_with fail
  refine (C.out _).mono ?_
  rintro e w1 ⟨rfl, hb⟩
  have B := Lib.hid hb
  have K1 := Lib.hid (HK.out.on B.out)
  clear hb
  go_wp2_with fail
  refine (P.out _ K1.out).mono ?_
  rintro e w2 ⟨rfl, hb⟩
  have B2 := Lib.hid (B.out.trans (hb.mono B.out.size))
  clear hb
  go_wp2_with fail
  refine (U.out _).mono ?_
  rintro e w3 ⟨rfl, hb⟩
  have B3 := Lib.hid (B2.out.trans (hb.mono B2.out.size))
  have G3 := Lib.hid (HG.out.on B3.out)
  clear hb
  go_wp2_with fail
  refine (D.out _ G3.out).mono ?_
  rintro e w4 ⟨rfl, hb⟩
  have B4 := Lib.hid (B3.out.trans (hb.mono B3.out.size))
  clear hb
  go_wp2_with fail
  refine (S.out _).mono ?_
  rintro e w5 ⟨rfl, hb⟩
  have B5 := Lib.hid (B4.out.trans (hb.mono B4.out.size))
  clear hb
  go_wp2_with fail
  go_ret2
  exact ⟨rfl, B5.out⟩
end Go.Proofs.YtfckjilhkdlpfaaDoor
