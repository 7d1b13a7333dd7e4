/-
  mailsacklaw02.MacLong: the walk.
-/
import Derived.Test.YtkbfflnjbafamaaDoorRMac
import Derived.Test.YtkbfflnjbafamaaDoorMacL
import Derived.Deep.DeepCutAuto
namespace Go.Proofs.YtkbfflnjbafamaaDoor
open Go.RowKit MS

theorem getD_pad (l : List UInt8) (n i : Nat) : (l ++ List.replicate n 0).getD i 0 = l.getD i 0 := by
  rw [List.getD_eq_getElem?_getD, List.getD_eq_getElem?_getD, List.getElem?_append]
  split
  · rfl
  · rw [List.getElem?_replicate, List.getElem?_eq_none (by omega : l.length ≤ i)]
    split <;> rfl
theorem mask_pad (k : ByteArray) (n : Nat) (b : UInt8) (s : ByteArray) : maskB (k ++ bs (List.replicate n 0)) b s = maskB k b s := by
  have e : mkL (ls (k ++ bs (List.replicate n 0))) b = mkL (ls k) b := by
    rw [ls_append, ls_bs]
    apply List.ext_getElem?
    intro i
    by_cases h : i < 64
    · simp only [mkL, List.getElem?_map, List.getElem?_range h, Option.map_some, getD_pad]
    · rw [List.getElem?_eq_none (by simp [mkL]; omega), List.getElem?_eq_none (by simp [mkL]; omega)]
  rw [maskB, maskB, e]
theorem macB_pad (k s : ByteArray) (n : Nat) (h : k.size + n ≤ 64) : macB (k ++ bs (List.replicate n 0)) s = macB k s := by
  have h1 : kB (k ++ bs (List.replicate n 0)) = k ++ bs (List.replicate n 0) := by
    rw [kB, if_neg]
    rw [ByteArray.size_append, size_bs, List.length_replicate]; omega
  have h2 : kB k = k := by rw [kB, if_neg]; omega
  rw [macB, macB, h1, h2, mask_pad, mask_pad]
/-- Noughts out of a block that was made for them, in whatever later world. -/
theorem conv_zeros {w w' : World} (n : Nat) (hb : Below (w.alloc (.cells (vls (List.replicate n 0)).toArray 5 (0, 0))).heap.size (w.alloc (.cells (vls (List.replicate n 0)).toArray 5 (0, 0))) w') :
    (convert 33 9 (.slice (some ⟨w.heap.size, 0, none⟩) n n)).run Tryd.prog w' = .ok (.string (bs (List.replicate n 0))) w' :=
  conv_est ((est_new w (List.replicate n 0)).on hb) n (by simp)

set_option maxRecDepth 100000 in
set_option maxHeartbeats 2000000 in
theorem maclong_any (a b : ByteArray) (c : UInt8) (w : World) (G : Glob w) :
    Calls Tryd.prog 10 #[.string a, .string b, .int .u8 (c.toNat : Int)] w fun e w' => e = .returned (.bool true) ∧ Below w.heap.size w w' := by
  have HG := Lib.hid G
  have A := Lib.hid (fun w G => awake02_any w G)
  have lc := c.toNat_lt
  generalize c.toNat = q at *
  clear G
  by_cases g0 : a.size > 512
  · have t0 : decide ((a.size : Int) > 512) = true := by simp; omega
    go_enter Tryd.func10, Tryd.ntmps10
    go_wp2_with fail
    refine (A.out _ HG.out).mono ?_
    rintro e w1 ⟨rfl, hb1⟩
    go_wp2_with fail
    go_ret
    exact ⟨rfl, hb1⟩
  have t0 : decide ((a.size : Int) > 512) = false := by simp; omega
  by_cases g1 : b.size > 512
  · have t1 : decide ((b.size : Int) > 512) = true := by simp; omega
    go_enter Tryd.func10, Tryd.ntmps10
    go_wp2_with fail
    refine (A.out _ HG.out).mono ?_
    rintro e w1 ⟨rfl, hb1⟩
    go_wp2_with fail
    go_ret
    exact ⟨rfl, hb1⟩
  have t1 : decide ((b.size : Int) > 512) = false := by simp; omega
  have S1 := Lib.hid (fun w G => mac_any a b w (by omega) (by omega) G)
  by_cases h : a.size > 64
  · have t2 : decide ((a.size : Int) > 64) = true := by simp; omega
    have S2 := Lib.hid (fun w G => sum_any a w (by omega) G)
    have S3 := Lib.hid (fun w G => mac_any (sumB a) b w (by rw [size_sumB]; decide) (by omega) G)
    have e : macB (sumB a) b = macB a b := by
      have := macB_kB a b
      rwa [show kB a = sumB a by rw [kB, if_pos h]] at this
    rw [e] at S3
    generalize macB a b = D at S1 S3
    generalize sumB a = E at S2 S3
    clear g0 g1 h e lc
    go_enter Tryd.func10, Tryd.ntmps10
    go_wp2_with fail
    refine (S1.out _ HG.out).mono ?_
    rintro e w1 ⟨rfl, hb⟩
    have B1 := Lib.hid hb
    clear hb
    go_wp2_with fail
    refine (S2.out _ (HG.out.on B1.out)).mono ?_
    rintro e w2 ⟨rfl, hb⟩
    have B2 := Lib.hid (B1.out.trans (hb.mono B1.out.size))
    clear hb
    go_wp2_with fail
    refine (S3.out _ (HG.out.on B2.out)).mono ?_
    rintro e w3 ⟨rfl, hb⟩
    have B3 := Lib.hid (B2.out.trans (hb.mono B2.out.size))
    clear hb
    go_wp2_with fail
    refine (A.out _ (HG.out.on B3.out)).mono ?_
    rintro e w4 ⟨rfl, hb⟩
    have B4 := Lib.hid (B3.out.trans (hb.mono B3.out.size))
    clear hb
    go_wp2_with fail
    go_ret
    exact ⟨rfl, B4.out⟩
  · have t2 : decide ((a.size : Int) > 64) = false := by simp; omega
    have ab : (a.size : Int) ≤ 64 := by omega
    go_enter Tryd.func10, Tryd.ntmps10
    go_upto_region 5 with fail
    go_cut [7] (fun v wx => ∃ n : Nat, a.size + n ≤ 64 ∧ v = .int .i64 n ∧ wx = w)
    case first =>
      go_wp2_with fail
      all_goals go_meet
      · exact ⟨64 - a.size, by omega, congrArg (Value.int .i64) (by omega), rfl⟩
      · exact ⟨q, by omega, rfl, rfl⟩
    case rest =>
      obtain ⟨n, hn, rfl, rfl⟩ := hcut
      have hmk := fun w => run_zeros n (by omega) w
      have CZ := Lib.hid (fun w w' hb => conv_zeros (w := w) (w' := w') n hb)
      have S2 := Lib.hid (fun w G => mac_any (a ++ bs (List.replicate n 0)) b w (by rw [ByteArray.size_append, size_bs, List.length_replicate]; omega) (by omega) G)
      rw [macB_pad a b n hn] at S2
      have hz : (a.size : Int) + ((bs (List.replicate n 0)).size : Int) ≤ 64 := by rw [size_bs, List.length_replicate]; omega
      have hzn : ¬ (9223372036854775807 < a.size + (bs (List.replicate n 0)).size) := by omega
      generalize macB a b = D at S1 S2
      generalize bs (List.replicate n 0) = Z at CZ S2 hz hzn
      generalize hO : Obj.cells (vls (List.replicate n 0)).toArray 5 (0, 0) = O at CZ hmk
      clear hn g0 g1 h lc hO ab
      go_wp2_with fail
      refine wp_region_any (by kernel_rfl) ?_
      change wpAny _ _ _ _ _ _ _ (World.drew _)
      refine wpAny_take_at (i := 0) (d := 37) (v := .string a) rfl (by kernel_rfl) (by kernel_rfl) (by kernel_rfl) (fun _ _ _ h => h) rfl (Or.inl ⟨by rfl, by intro w; go_simp⟩) ?_
      refine wpAny_take_at (i := 1) (d := 38) (v := .string b) rfl (by kernel_rfl) (by kernel_rfl) (by kernel_rfl) (fun _ _ _ h => h) rfl (Or.inl ⟨by rfl, by intro w; go_simp⟩) ?_
      refine wpAny_take_at (i := 3) (d := 40) (v := .string a) rfl (by kernel_rfl) (by kernel_rfl) (by kernel_rfl) (fun _ _ _ h => h) rfl (Or.inl ⟨by rfl, by intro w; go_simp⟩) ?_
      refine wpAny_take_at (i := 4) (d := 41) (v := .int .i64 n) rfl (by kernel_rfl) (by kernel_rfl) (by kernel_rfl) (fun _ _ _ h => h) rfl (Or.inl ⟨by rfl, by intro w; go_simp⟩) ?_
      refine wpAny_take_at (i := 8) (d := 45) (v := .string b) rfl (by kernel_rfl) (by kernel_rfl) (by kernel_rfl) (fun _ _ _ h => h) rfl (Or.inl ⟨by rfl, by intro w; go_simp⟩) ?_
      simp only [Act.put, List.setIfInBounds_toArray, List.set_cons_zero, List.set_cons_succ]
      have B0 := Lib.hid (Below.refl wc.heap.size wc).drew
      generalize wc.drew = w0 at B0 ⊢
      refine wpAny_ready (rs := [2, 5]) (by kernel_rfl) (by simp) ?_
      refine AllReady.cons rfl (fun K hK => ?_) (AllReady.cons rfl (fun K hK => ?_) AllReady.nil)
      · go_simp
        refine (S1.out _ (HG.out.on B0.out)).mono ?_
        rintro e w1 ⟨rfl, hb⟩
        have B1 := Lib.hid (B0.out.trans (hb.mono B0.out.size))
        have HBL := Lib.hid hb
        clear hb
        go_simp
        refine hK _ _ ?_
        clear hK K
        refine wpAny_ready (rs := [5]) (by kernel_rfl) (by simp) ?_
        refine AllReady.cons rfl (fun K hK => ?_) AllReady.nil
        go_simp
        refine hK _ _ ?_
        clear hK K
        have hcv := CZ.out w1 (w1.alloc O) (Below.refl _ _)
        refine wpAny_ready (rs := [6]) (by kernel_rfl) (by simp) ?_
        refine AllReady.cons rfl (fun K hK => ?_) AllReady.nil
        go_simp
        refine hK _ _ ?_
        clear hK K
        clear hcv
        have B2 := Lib.hid (below_alloc B1.out O)
        generalize w1.alloc O = w2 at B2 ⊢
        refine wpAny_ready (rs := [7]) (by kernel_rfl) (by simp) ?_
        refine AllReady.cons rfl (fun K hK => ?_) AllReady.nil
        go_simp
        refine hK _ _ ?_
        clear hK K
        refine wpAny_tail 9 6 (by kernel_rfl) rfl ?_
        simp only [List.drop_succ_cons, List.drop_zero]
        go_wp2_with fail
        refine (S2.out _ (HG.out.on B2.out)).mono ?_
        rintro e wt ⟨rfl, hb⟩
        have BT := Lib.hid (B2.out.trans (hb.mono B2.out.size))
        clear hb
        go_wp2_with fail
        refine (A.out _ (HG.out.on BT.out)).mono ?_
        rintro e wu ⟨rfl, hb⟩
        have BU := Lib.hid (BT.out.trans (hb.mono BT.out.size))
        clear hb
        go_wp2_with fail
        go_ret
        exact ⟨rfl, BU.out⟩
      · go_simp
        refine hK _ _ ?_
        clear hK K
        refine wpAny_ready (rs := [2, 6]) (by kernel_rfl) (by simp) ?_
        refine AllReady.cons rfl (fun K hK => ?_) (AllReady.cons rfl (fun K hK => ?_) AllReady.nil)
        · have B1 := Lib.hid (below_alloc B0.out O)
          go_simp
          refine (S1.out _ (HG.out.on B1.out)).mono ?_
          rintro e w2 ⟨rfl, hb⟩
          have B2 := Lib.hid (B1.out.trans (hb.mono B1.out.size))
          have HBL := Lib.hid hb
          clear hb
          go_simp
          refine hK _ _ ?_
          clear hK K
          have hcv := CZ.out w0 w2 HBL.out
          refine wpAny_ready (rs := [6]) (by kernel_rfl) (by simp) ?_
          refine AllReady.cons rfl (fun K hK => ?_) AllReady.nil
          go_simp
          refine hK _ _ ?_
          clear hK K
          clear hcv
          refine wpAny_ready (rs := [7]) (by kernel_rfl) (by simp) ?_
          refine AllReady.cons rfl (fun K hK => ?_) AllReady.nil
          go_simp
          refine hK _ _ ?_
          clear hK K
          refine wpAny_tail 9 6 (by kernel_rfl) rfl ?_
          simp only [List.drop_succ_cons, List.drop_zero]
          go_wp2_with fail
          refine (S2.out _ (HG.out.on B2.out)).mono ?_
          rintro e wt ⟨rfl, hb⟩
          have BT := Lib.hid (B2.out.trans (hb.mono B2.out.size))
          clear hb
          go_wp2_with fail
          refine (A.out _ (HG.out.on BT.out)).mono ?_
          rintro e wu ⟨rfl, hb⟩
          have BU := Lib.hid (BT.out.trans (hb.mono BT.out.size))
          clear hb
          go_wp2_with fail
          go_ret
          exact ⟨rfl, BU.out⟩
        · have hcv := CZ.out w0 (w0.alloc O) (Below.refl _ _)
          go_simp
          refine hK _ _ ?_
          clear hK K
          clear hcv
          have B1 := Lib.hid (below_alloc B0.out O)
          generalize w0.alloc O = w1 at B1 ⊢
          refine wpAny_ready (rs := [2, 7]) (by kernel_rfl) (by simp) ?_
          refine AllReady.cons rfl (fun K hK => ?_) (AllReady.cons rfl (fun K hK => ?_) AllReady.nil)
          · go_simp
            refine (S1.out _ (HG.out.on B1.out)).mono ?_
            rintro e w2 ⟨rfl, hb⟩
            have B2 := Lib.hid (B1.out.trans (hb.mono B1.out.size))
            have HBL := Lib.hid hb
            clear hb
            go_simp
            refine hK _ _ ?_
            clear hK K
            refine wpAny_ready (rs := [7]) (by kernel_rfl) (by simp) ?_
            refine AllReady.cons rfl (fun K hK => ?_) AllReady.nil
            go_simp
            refine hK _ _ ?_
            clear hK K
            refine wpAny_tail 9 6 (by kernel_rfl) rfl ?_
            simp only [List.drop_succ_cons, List.drop_zero]
            go_wp2_with fail
            refine (S2.out _ (HG.out.on B2.out)).mono ?_
            rintro e wt ⟨rfl, hb⟩
            have BT := Lib.hid (B2.out.trans (hb.mono B2.out.size))
            clear hb
            go_wp2_with fail
            refine (A.out _ (HG.out.on BT.out)).mono ?_
            rintro e wu ⟨rfl, hb⟩
            have BU := Lib.hid (BT.out.trans (hb.mono BT.out.size))
            clear hb
            go_wp2_with fail
            go_ret
            exact ⟨rfl, BU.out⟩
          · go_simp
            refine hK _ _ ?_
            clear hK K
            refine wpAny_ready (rs := [2]) (by kernel_rfl) (by simp) ?_
            refine AllReady.cons rfl (fun K hK => ?_) AllReady.nil
            go_simp
            refine (S1.out _ (HG.out.on B1.out)).mono ?_
            rintro e w2 ⟨rfl, hb⟩
            have B2 := Lib.hid (B1.out.trans (hb.mono B1.out.size))
            have HBL := Lib.hid hb
            clear hb
            go_simp
            refine hK _ _ ?_
            clear hK K
            refine wpAny_tail 9 6 (by kernel_rfl) rfl ?_
            simp only [List.drop_succ_cons, List.drop_zero]
            go_wp2_with fail
            refine (S2.out _ (HG.out.on B2.out)).mono ?_
            rintro e wt ⟨rfl, hb⟩
            have BT := Lib.hid (B2.out.trans (hb.mono B2.out.size))
            clear hb
            go_wp2_with fail
            refine (A.out _ (HG.out.on BT.out)).mono ?_
            rintro e wu ⟨rfl, hb⟩
            have BU := Lib.hid (BT.out.trans (hb.mono BT.out.size))
            clear hb
            go_wp2_with fail
            go_ret
            exact ⟨rfl, BU.out⟩
end Go.Proofs.YtkbfflnjbafamaaDoor
