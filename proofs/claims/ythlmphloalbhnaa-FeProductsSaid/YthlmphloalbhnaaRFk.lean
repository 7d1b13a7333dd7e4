/-
  mailsacklaw03.FeSums, FeProducts: the walks.
-/
import Derived.Test.YthlmphloalbhnaaRFj
import Derived.Test.YthlmphloalbhnaaFeX
namespace Go.Proofs.Ythlmphloalbhnaa
open Go.RowKit MS

theorem size_bs32 (v : Nat) : (bs (le32 v)).size = 32 := by rw [size_bs, length_le32]

set_option maxRecDepth 1000000 in
set_option maxHeartbeats 2000000 in
theorem fesums_any (a : N5) (ha : a.ok) (b : N5) (hb : b.ok) (w : World) :
    Calls Try.prog 4 #[.agg (nvA a), .agg (nvA b)] w fun e w' => e = .returned (.bool true) ∧ Below w.heap.size w w' := by
  have A := Lib.hid (fun w => awake03_any w)
  have NA := Lib.hid (fun w => num_any a ha w)
  have NB := Lib.hid (fun w => num_any b hb w)
  have C1 := Lib.hid (fun w => feadd_any a b ha hb w)
  have B1 := Lib.hid (fun w => febytes_any (add a b) (add_ok ha hb) w)
  have C2 := Lib.hid (fun w => fesub_any a b ha hb w)
  have B2 := Lib.hid (fun w => febytes_any (sub a b) (sub_ok ha) w)
  rw [show feB (add a b) = bs (le32 ((a.v % Q' + b.v % Q') % Q')) by rw [feB, add_mod, Nat.add_mod]] at B1
  rw [show feB (sub a b) = bs (le32 ((a.v % Q' + (Q' - b.v % Q')) % Q')) by rw [feB, sub_val a hb]] at B2
  have IA := Lib.hid (infoV a)
  have IB := Lib.hid (infoV b)
  have R0 := Lib.hid (show Rw w [(w.heap.size, nvA a, 24), (w.heap.size + 1, nvA b, 24)] ((w.alloc (.cells (nvA a) 24 (0, 0))).alloc (.cells (nvA b) 24 (0, 0))) from rw2 w (nvA a) (nvA b))
  have QA := Lib.hid (show a.v % Q' ≤ Q' from Nat.le_of_lt (Nat.mod_lt _ (by decide)))
  have QB := Lib.hid (show b.v % Q' ≤ Q' from Nat.le_of_lt (Nat.mod_lt _ (by decide)))
  generalize a.v % Q' = u at *
  generalize b.v % Q' = v at *
  generalize nvA (add a b) = r1 at *
  generalize nvA (sub a b) = r2 at *
  generalize nvA a = ra at *
  generalize nvA b = rb at *
  clear ha hb
  go_enter Try.func4, Try.ntmps4
  go_upto_region 1 with fail
  generalize (w.alloc (.cells ra 24 (0, 0))).alloc (.cells rb 24 (0, 0)) = W at R0 ⊢
  generalize w.heap.size + 1 = gb at *
  generalize hga : w.heap.size = ga at *
  clear hga
  refine wp_region_held (S := fun w' => Below W.heap.size W w') (by kernel_rfl) ?_
  change wpAnyH _ _ _ _ _ _ _ _ (World.drew _)
  have HS : Below W.heap.size W W.drew := (Below.refl _ _).drew
  refine wpAnyH_take_at (i := 0) (d := 7) (v := .agg ra) rfl (by kernel_rfl) (by kernel_rfl) (by kernel_rfl) (fun _ _ _ h => h) rfl (Or.inl ⟨by rfl, fun w1 h1 => run_load_row 24 (.tmp 2) rfl ga rfl 24 ra (0, 0) _ ((R0.out.on h1).row 0) Try.underlying24 rfl IA.out⟩) HS ?_
  simp only [Act.put, List.setIfInBounds_toArray, List.set_cons_zero, List.set_cons_succ]
  refine wpAnyH_take_at (i := 2) (d := 9) (v := .agg rb) rfl (by kernel_rfl) (by kernel_rfl) (by kernel_rfl) (fun _ _ _ h => h) rfl (Or.inl ⟨by rfl, fun w1 h1 => run_load_row 24 (.tmp 3) rfl gb rfl 24 rb (0, 0) _ ((R0.out.on h1).row 1) Try.underlying24 rfl IB.out⟩) HS ?_
  simp only [Act.put, List.setIfInBounds_toArray, List.set_cons_zero, List.set_cons_succ]
  refine wpAnyH_all (rs := [1]) (by kernel_rfl) (by simp) (List.forall_mem_singleton.2 ?_)
  refine wpOp_call (d := 8) (f := 15) (args := #[.agg ra]) rfl (by rfl) rfl (by go_simp) ?_
  refine (NA.out _).mono ?_
  rintro e w1 ⟨hb1, x1, rfl, hd1⟩
  have HS1 := HS.trans (hb1.mono HS.size)
  refine ⟨x1, rfl, HS1, ?_⟩
  refine wpAnyH_all (rs := [3]) (by kernel_rfl) (by simp) (List.forall_mem_singleton.2 ?_)
  refine wpOp_call (d := 10) (f := 15) (args := #[.agg rb]) rfl (by rfl) rfl (by go_simp) ?_
  refine (NB.out _).mono ?_
  rintro e w2 ⟨hb2, x2, rfl, hd2⟩
  have HS2 := HS1.trans (hb2.mono HS1.size)
  have D1 := Lib.hid (hd1.on hb2)
  have D2 := Lib.hid hd2
  have R2 := Lib.hid (R0.out.on HS2)
  refine ⟨x2, rfl, HS2, ?_⟩
  simp only [Act.put, List.setIfInBounds_toArray, List.set_cons_zero, List.set_cons_succ]
  refine wpAnyH_all (rs := [4]) (by kernel_rfl) (by simp) (List.forall_mem_singleton.2 ?_)
  refine wpOp_assign (d := 5) (s := 8) (v := x1) rfl rfl rfl rfl rfl ⟨HS2, ?_⟩
  refine wpAnyH_all (rs := [5]) (by kernel_rfl) (by simp) (List.forall_mem_singleton.2 ?_)
  refine wpOp_assign (d := 6) (s := 10) (v := x2) rfl rfl rfl rfl rfl ⟨HS2, ?_⟩
  refine wpAnyH_done (by kernel_rfl) ?_ _
  simp only [Act.put, List.setIfInBounds_toArray, List.set_cons_zero, List.set_cons_succ]
  clear hb1 hd1 hb2 hd2 HS HS1 HS2
  have RA := Lib.hid (R2.out.row 0)
  have RB := Lib.hid (R2.out.row 1)
  go_wp2_with (first
    | (with_reducible refine wpList_load_row rfl 24 (.tmp 2) rfl ga rfl 24 ra (0, 0) _ RA.out Try.underlying24 rfl IA.out ?_)
    | (with_reducible refine wpList_load_row rfl 24 (.tmp 3) rfl gb rfl 24 rb (0, 0) _ RB.out Try.underlying24 rfl IB.out ?_))
  refine (C1.out _).mono ?_
  rintro e w3 ⟨rfl, hb3⟩
  have R3 := Lib.hid (R2.out.on hb3)
  have D1b := Lib.hid (D1.out.on hb3)
  have D2b := Lib.hid (D2.out.on hb3)
  clear hb3 D1 D2 R2 RA RB
  go_wp2_with fail
  refine (B1.out _).mono ?_
  rintro e w4 ⟨rfl, hb4⟩
  have R4 := Lib.hid (R3.out.on hb4)
  have D1c := Lib.hid (D1b.out.on hb4)
  have D2c := Lib.hid (D2b.out.on hb4)
  clear hb4 D1b D2b R3
  go_wp2_with fail
  refine (rfadd_any 16 16 u v _ _ _ _ _ D1c.out D2c.out (by decide) (by decide) (by decide)).mono ?_
  rintro e w5 ⟨hb5, y1, rfl, hd5⟩
  have D5 := Lib.hid hd5
  have R5 := Lib.hid (R4.out.on hb5)
  have D1d := Lib.hid (D1c.out.on hb5)
  have D2d := Lib.hid (D2c.out.on hb5)
  clear hb5 hd5 D1c D2c R4
  go_wp2_with fail
  refine (rfbytes_any _ _ _ _ D5.out).mono ?_
  rintro e w6 ⟨rfl, hb6⟩
  have R6 := Lib.hid (R5.out.on hb6)
  have D1e := Lib.hid (D1d.out.on hb6)
  have D2e := Lib.hid (D2d.out.on hb6)
  clear hb6 D1d D2d R5 D5
  have RA := Lib.hid (R6.out.row 0)
  have RB := Lib.hid (R6.out.row 1)
  go_wp2_with (first
    | (with_reducible refine wpList_load_row_g (by with_unfolding_all exact rfl) 24 (.tmp 2) rfl ga rfl 24 ra (0, 0) _ RA.out Try.underlying24 rfl IA.out ?_)
    | (with_reducible refine wpList_load_row_g (by with_unfolding_all exact rfl) 24 (.tmp 3) rfl gb rfl 24 rb (0, 0) _ RB.out Try.underlying24 rfl IB.out ?_))
  refine (C2.out _).mono ?_
  rintro e w7 ⟨rfl, hb7⟩
  have R7 := Lib.hid (R6.out.on hb7)
  have D1f := Lib.hid (D1e.out.on hb7)
  have D2f := Lib.hid (D2e.out.on hb7)
  clear hb7 D1e D2e R6 RA RB
  go_wp2_with fail
  refine (B2.out _).mono ?_
  rintro e w8 ⟨rfl, hb8⟩
  have R8 := Lib.hid (R7.out.on hb8)
  have D1g := Lib.hid (D1f.out.on hb8)
  have D2g := Lib.hid (D2f.out.on hb8)
  clear hb8 D1f D2f R7
  go_wp2_with fail
  refine (rfsub_any u v _ _ _ _ _ D1g.out D2g.out QB.out).mono ?_
  rintro e w9 ⟨hb9, y2, rfl, hd9⟩
  have D9 := Lib.hid hd9
  have R9 := Lib.hid (R8.out.on hb9)
  clear hb9 hd9 D1g D2g R8
  go_wp2_with fail
  refine (rfbytes_any _ _ _ _ D9.out).mono ?_
  rintro e wa ⟨rfl, hba⟩
  have Ra := Lib.hid (R9.out.on hba)
  clear hba R9 D9
  go_wp2_with fail
  refine (A.out _).mono ?_
  rintro e wb ⟨rfl, hbb⟩
  have hz := (Ra.out.on hbb).bel
  clear hbb Ra
  go_wp2_with fail
  go_ret
  exact ⟨rfl, hz⟩

set_option maxRecDepth 1000000 in
set_option maxHeartbeats 2000000 in
theorem feproducts_any (a : N5) (ha : a.ok) (b : N5) (hb : b.ok) (n : Nat) (hn : n < 4294967296) (w : World) :
    Calls Try.prog 3 #[.agg (nvA a), .agg (nvA b), .int .u32 (n : Int)] w fun e w' => e = .returned (.bool true) ∧ Below w.heap.size w w' := by
  have A := Lib.hid (fun w => awake03_any w)
  have NA := Lib.hid (fun w => num_any a ha w)
  have NB := Lib.hid (fun w => num_any b hb w)
  have C1 := Lib.hid (fun w => femul_any a b ha hb w)
  have B1 := Lib.hid (fun w => febytes_any (mul a b) (mul_ok ha hb) w)
  have C2 := Lib.hid (fun w => fesmall_any a n ha hn w)
  have B2 := Lib.hid (fun w => febytes_any (mul a ⟨n, 0, 0, 0, 0⟩) (mul_ok ha (small_ok n (by omega))) w)
  rw [show feB (mul a b) = bs (le32 (a.v % Q' * (b.v % Q') % Q')) by rw [feB, mul_mod, Nat.mul_mod]] at B1
  rw [show feB (mul a ⟨n, 0, 0, 0, 0⟩) = bs (le32 (a.v % Q' * n % Q')) by rw [feB, mul_mod, Nat.mul_mod, Nat.mul_mod (a.v % Q'), Nat.mod_mod]; simp [N5.v]] at B2
  have HN := Lib.hid (fun w => rfsmall_any n hn w)
  have n0 : (0 : Int) ≤ (n : Int) := by omega
  have n1 : (n : Int) < 4294967296 := by omega
  have IA := Lib.hid (infoV a)
  have IB := Lib.hid (infoV b)
  have R0 := Lib.hid (show Rw w [(w.heap.size, nvA a, 24), (w.heap.size + 1, nvA b, 24)] ((w.alloc (.cells (nvA a) 24 (0, 0))).alloc (.cells (nvA b) 24 (0, 0))) from rw2 w (nvA a) (nvA b))
  have QA := Lib.hid (show a.v % Q' ≤ Q' from Nat.le_of_lt (Nat.mod_lt _ (by decide)))
  have QB := Lib.hid (show b.v % Q' ≤ Q' from Nat.le_of_lt (Nat.mod_lt _ (by decide)))
  generalize a.v % Q' = u at *
  generalize b.v % Q' = v at *
  generalize nvA (mul a b) = r1 at *
  generalize nvA (mul a ⟨n, 0, 0, 0, 0⟩) = r2 at *
  generalize nvA a = ra at *
  generalize nvA b = rb at *
  clear ha hb hn
  go_enter Try.func3, Try.ntmps3
  go_upto_region 1 with fail
  generalize (w.alloc (.cells ra 24 (0, 0))).alloc (.cells rb 24 (0, 0)) = W at R0 ⊢
  generalize w.heap.size + 1 = gb at *
  generalize hga : w.heap.size = ga at *
  clear hga
  refine wp_region_held (S := fun w' => Below W.heap.size W w') (by kernel_rfl) ?_
  change wpAnyH _ _ _ _ _ _ _ _ (World.drew _)
  have HS : Below W.heap.size W W.drew := (Below.refl _ _).drew
  refine wpAnyH_take_at (i := 0) (d := 9) (v := .agg ra) rfl (by kernel_rfl) (by kernel_rfl) (by kernel_rfl) (fun _ _ _ h => h) rfl (Or.inl ⟨by rfl, fun w1 h1 => run_load_row 24 (.tmp 3) rfl ga rfl 24 ra (0, 0) _ ((R0.out.on h1).row 0) Try.underlying24 rfl IA.out⟩) HS ?_
  simp only [Act.put, List.setIfInBounds_toArray, List.set_cons_zero, List.set_cons_succ]
  refine wpAnyH_take_at (i := 2) (d := 11) (v := .agg rb) rfl (by kernel_rfl) (by kernel_rfl) (by kernel_rfl) (fun _ _ _ h => h) rfl (Or.inl ⟨by rfl, fun w1 h1 => run_load_row 24 (.tmp 4) rfl gb rfl 24 rb (0, 0) _ ((R0.out.on h1).row 1) Try.underlying24 rfl IB.out⟩) HS ?_
  simp only [Act.put, List.setIfInBounds_toArray, List.set_cons_zero, List.set_cons_succ]
  refine wpAnyH_all (rs := [1]) (by kernel_rfl) (by simp) (List.forall_mem_singleton.2 ?_)
  refine wpOp_call (d := 10) (f := 15) (args := #[.agg ra]) rfl (by rfl) rfl (by go_simp) ?_
  refine (NA.out _).mono ?_
  rintro e w1 ⟨hb1, x1, rfl, hd1⟩
  have HS1 := HS.trans (hb1.mono HS.size)
  refine ⟨x1, rfl, HS1, ?_⟩
  refine wpAnyH_all (rs := [3]) (by kernel_rfl) (by simp) (List.forall_mem_singleton.2 ?_)
  refine wpOp_call (d := 12) (f := 15) (args := #[.agg rb]) rfl (by rfl) rfl (by go_simp) ?_
  refine (NB.out _).mono ?_
  rintro e w2 ⟨hb2, x2, rfl, hd2⟩
  have HS2 := HS1.trans (hb2.mono HS1.size)
  have D1 := Lib.hid (hd1.on hb2)
  have D2 := Lib.hid hd2
  have R2 := Lib.hid (R0.out.on HS2)
  refine ⟨x2, rfl, HS2, ?_⟩
  simp only [Act.put, List.setIfInBounds_toArray, List.set_cons_zero, List.set_cons_succ]
  refine wpAnyH_all (rs := [4]) (by kernel_rfl) (by simp) (List.forall_mem_singleton.2 ?_)
  refine wpOp_assign (d := 7) (s := 10) (v := x1) rfl rfl rfl rfl rfl ⟨HS2, ?_⟩
  refine wpAnyH_all (rs := [5]) (by kernel_rfl) (by simp) (List.forall_mem_singleton.2 ?_)
  refine wpOp_assign (d := 8) (s := 12) (v := x2) rfl rfl rfl rfl rfl ⟨HS2, ?_⟩
  refine wpAnyH_done (by kernel_rfl) ?_ _
  simp only [Act.put, List.setIfInBounds_toArray, List.set_cons_zero, List.set_cons_succ]
  clear hb1 hd1 hb2 hd2 HS HS1 HS2
  have RA := Lib.hid (R2.out.row 0)
  have RB := Lib.hid (R2.out.row 1)
  go_wp2_with (first
    | (with_reducible refine wpList_load_row rfl 24 (.tmp 3) rfl ga rfl 24 ra (0, 0) _ RA.out Try.underlying24 rfl IA.out ?_)
    | (with_reducible refine wpList_load_row rfl 24 (.tmp 4) rfl gb rfl 24 rb (0, 0) _ RB.out Try.underlying24 rfl IB.out ?_))
  refine (C1.out _).mono ?_
  rintro e w3 ⟨rfl, hb3⟩
  have R3 := Lib.hid (R2.out.on hb3)
  have D1b := Lib.hid (D1.out.on hb3)
  have D2b := Lib.hid (D2.out.on hb3)
  clear hb3 D1 D2 R2 RA RB
  go_wp2_with fail
  refine (B1.out _).mono ?_
  rintro e w4 ⟨rfl, hb4⟩
  have R4 := Lib.hid (R3.out.on hb4)
  have D1c := Lib.hid (D1b.out.on hb4)
  have D2c := Lib.hid (D2b.out.on hb4)
  clear hb4 D1b D2b R3
  go_wp2_with fail
  refine (rfmul_any u v _ _ _ _ _ D1c.out D2c.out).mono ?_
  rintro e w5 ⟨hb5, y1, rfl, hd5⟩
  have D5 := Lib.hid hd5
  have R5 := Lib.hid (R4.out.on hb5)
  have D1d := Lib.hid (D1c.out.on hb5)
  clear hb5 hd5 D1c D2c R4
  go_wp2_with fail
  refine (rfbytes_any _ _ _ _ D5.out).mono ?_
  rintro e w6 ⟨rfl, hb6⟩
  have R6 := Lib.hid (R5.out.on hb6)
  have D1e := Lib.hid (D1d.out.on hb6)
  clear hb6 D1d R5 D5
  have RA := Lib.hid (R6.out.row 0)
  go_wp2_with (with_reducible refine wpList_load_row_g (by with_unfolding_all exact rfl) 24 (.tmp 3) rfl ga rfl 24 ra (0, 0) _ RA.out Try.underlying24 rfl IA.out ?_)
  refine (C2.out _).mono ?_
  rintro e w7 ⟨rfl, hb7⟩
  have R7 := Lib.hid (R6.out.on hb7)
  have D1f := Lib.hid (D1e.out.on hb7)
  clear hb7 D1e R6 RA
  go_wp2_with fail
  refine (B2.out _).mono ?_
  rintro e w8 ⟨rfl, hb8⟩
  have R8 := Lib.hid (R7.out.on hb8)
  have D1g := Lib.hid (D1f.out.on hb8)
  clear hb8 D1f R7
  go_wp2_with fail
  refine (HN.out _).mono ?_
  rintro e w9 ⟨hb9, y2, rfl, hd9⟩
  have D9 := Lib.hid hd9
  have R9 := Lib.hid (R8.out.on hb9)
  have D1h := Lib.hid (D1g.out.on hb9)
  clear hb9 hd9 D1g R8
  go_wp2_with fail
  refine (rfmul_any u n _ _ _ _ _ D1h.out D9.out).mono ?_
  rintro e wc ⟨hbc, y3, rfl, hdc⟩
  have Dc := Lib.hid hdc
  have Rc := Lib.hid (R9.out.on hbc)
  clear hbc hdc D1h D9 R9
  go_wp2_with fail
  refine (rfbytes_any _ _ _ _ Dc.out).mono ?_
  rintro e wa ⟨rfl, hba⟩
  have Ra := Lib.hid (Rc.out.on hba)
  clear hba Rc Dc
  go_wp2_with fail
  refine (A.out _).mono ?_
  rintro e wb ⟨rfl, hbb⟩
  have hz := (Ra.out.on hbb).bel
  clear hbb Ra
  go_wp2_with fail
  go_ret
  exact ⟨rfl, hz⟩
end Go.Proofs.Ythlmphloalbhnaa
