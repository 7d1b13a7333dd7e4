/-
  The law SealSizes.
-/
import Derived.Test.YtfckjilhkdlpfaaDoorSeR
namespace Go.Proofs.YtfckjilhkdlpfaaDoor
open Go.RowKit MS

theorem boxB_head (p o s : ByteArray) : (boxB p o s).extract 0 32 = xB o baseB := ext_app_left _ _ _ (size_xB o baseB).symm
theorem Cls.drewN {w : World} (h : Cls w) (n : Nat) : Cls (w.drewN n) := h.on (below_drewN (Below.refl _ _) n)

theorem class_below (n : Nat) (h : n ≤ 700) (w : World) (K : Cls w) : Calls Tryd.prog 20 #[.int .i64 (n : Int)] w fun e w' => e = .returned (.int .i64 (clsN n : Nat)) ∧ Below w.heap.size w w' := by
  have h1 := class_any (n : Int) w K
  rw [clsI_nat _ h] at h1
  exact h1.mono fun e w' ⟨h2, h3⟩ => ⟨h2, h3 ▸ Below.refl _ _⟩
set_option maxRecDepth 1000000 in
set_option maxHeartbeats 2000000 in
theorem sizes_in (p o s t : ByteArray) (w : World) (K : Cls w) (G : Glob w) (hp : p.size = 32) (ho : o.size = 32) (hs : s.size ≤ 700) (ht : t.size ≤ 700) :
    Calls Tryd.prog 8 #[.string p, .string o, .string s, .string t] w fun e w' => e = .returned (.bool true) ∧ Below w.heap.size w w' := by
  have AWK := Lib.hid awake08
  have HK := Lib.hid K
  have HG := Lib.hid G
  have p2 : ((p.size : Int) != 32) = false := by simp; omega
  have o2 : ((o.size : Int) != 32) = false := by simp; omega
  have s2 : ¬ (s.size : Int) > 700 := by omega
  have t2 : ¬ (t.size : Int) > 700 := by omega
  have PS := Lib.hid (fun w K => pad_yes s w K hs)
  have PT := Lib.hid (fun w K => pad_yes t w K ht)
  have BS := Lib.hid (fun w K G => box_yes p o s w K G ho hp hs)
  have BT := Lib.hid (fun w K G => box_yes p o t w K G ho hp ht)
  have CS := Lib.hid (fun w K => class_below s.size hs w K)
  have CT := Lib.hid (fun w K => class_below t.size ht w K)
  have hzs := size_boxB p o s hs
  have hzt := size_boxB p o t ht
  have hps := size_spadB s hs
  have hpt := size_spadB t ht
  have hhs := boxB_head p o s
  have hht := boxB_head p o t
  generalize boxB p o s = a at *
  generalize boxB p o t = b at *
  generalize spadB s = x at *
  generalize spadB t = y at *
  generalize xB o baseB = h at *
  have hcs := clsN_le s.size
  have hct := clsN_le t.size
  generalize clsN s.size = c at *
  generalize clsN t.size = d at *
  clear K G
  go_enter Tryd.func8, Tryd.ntmps8
  go_wp2_with fail
  refine (PS.out _ HK.out).mono ?_
  rintro e w1 ⟨rfl, hb⟩
  have B1 := Lib.hid hb
  have K1 := Lib.hid (HK.out.on B1.out)
  clear hb
  go_wp2_with fail
  refine (PT.out _ K1.out).mono ?_
  rintro e w2 ⟨rfl, hb⟩
  have B2 := Lib.hid (B1.out.trans (hb.mono B1.out.size))
  have K2 := Lib.hid (HK.out.on B2.out)
  have G2 := Lib.hid (HG.out.on B2.out)
  clear hb
  go_wp2_with fail
  refine (BS.out _ K2.out G2.out).mono ?_
  rintro e w3 ⟨rfl, hb⟩
  have B3 := Lib.hid (B2.out.trans (hb.mono B2.out.size))
  have K3 := Lib.hid (HK.out.on B3.out)
  have G3 := Lib.hid (HG.out.on B3.out)
  clear hb
  go_wp2_with fail
  refine (BT.out _ K3.out G3.out).mono ?_
  rintro e w4 ⟨rfl, hb⟩
  have B4 := Lib.hid (B3.out.trans (hb.mono B3.out.size))
  have K4 := Lib.hid (HK.out.on B4.out)
  clear hb
  obtain ⟨bb, E1, E2, E3⟩ : ∃ bb : Bool, ((a.size : Int) == (b.size : Int)) = bb ∧ ((x.size : Int) == (y.size : Int)) = bb ∧ ((c : Int) == (d : Int)) = bb := by
    by_cases hcd : c = d
    · subst hcd
      exact ⟨true, beq_iff_eq.2 (by omega), beq_iff_eq.2 (by omega), beq_iff_eq.2 rfl⟩
    · exact ⟨false, beq_eq_false_iff_ne.2 (by omega), beq_eq_false_iff_ne.2 (by omega), beq_eq_false_iff_ne.2 (by omega)⟩
  have q1 : ((x.size : Int) != (c : Int)) = false := by simp; omega
  have q2 : decide ((a.size : Int) < 48) = false := by simp; omega
  have q3 : (32 : Int) ≤ (a.size : Int) := by omega
  have q4 : min (b.size : Int) 32 = 32 := by omega
  have q5 : (32 : Int) ≤ (b.size : Int) := by omega
  go_wp2_with fail
  clear hzs hzt hps hpt hcs hct
  have CSB := Lib.hid (fun p : BW w4 => CS.out p.1 (K4.out.on p.2))
  refine wp_region_below (by kernel_rfl) (by kernel_rfl) ?_
  repeat (go_big_quiet_step (fail))
  go_big_quiet_step (exact calls_below (CSB.out _))
  repeat (go_big_quiet_step (fail))
  refine wpQuiet_nil ?_
  intro _ hw'
  obtain ⟨q, hw''⟩ := hw'
  subst hw''
  have B5 := Lib.hid (B4.out.trans (q.2.mono B4.out.size))
  have K5 := Lib.hid (HK.out.on B5.out)
  generalize q.1 = w5 at B5 K5 ⊢
  cases bb
  all_goals
    go_wp2_with fail
    refine (CS.out _ K5.out).mono ?_
    rintro e w6 ⟨rfl, hb⟩
    have B6 := Lib.hid (B5.out.trans (hb.mono B5.out.size))
    have K6 := Lib.hid (HK.out.on B6.out)
    clear hb
    go_wp2_with fail
    refine (CT.out _ K6.out).mono ?_
    rintro e w7 ⟨rfl, hb⟩
    have B7 := Lib.hid (B6.out.trans (hb.mono B6.out.size))
    have K7 := Lib.hid (HK.out.on B7.out)
    clear hb
    go_wp2_with fail
    refine (AWK.out _ K7.out).mono ?_
    rintro e w8 ⟨rfl, hb⟩
    have B8 := Lib.hid (B7.out.trans (hb.mono B7.out.size))
    clear hb
    go_wp2_with fail
    go_ret
    exact ⟨rfl, B8.out⟩
end Go.Proofs.YtfckjilhkdlpfaaDoor
