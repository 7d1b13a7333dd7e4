/-
  mailsacklaw03.FeInverts: the walk.
-/
import Derived.Test.YthlmphloalbhnaaRFl
import Derived.Test.YthlmphloalbhnaaRFj
import Derived.Test.YthlmphloalbhnaaFeV
import Derived.Test.YthlmphloalbhnaaEcNt
import Derived.Test.YthlmphloalbhnaaTwo
import Derived.Test.YthlmphloalbhnaaFeX
import Derived.Lib.SmallJoins
namespace Go.Proofs.Ythlmphloalbhnaa
open Go.RowKit MS

theorem ba_beq {a b : ByteArray} (h : ¬ a = b) : (a.toList == b.toList) = false := by
  rw [ByteArray.toList_eq, ByteArray.toList_eq, beq_eq_false_iff_ne]
  intro e
  exact h (ls_inj e)
theorem inv_times (x : Nat) : x * x ^ E21 % Q' = if x % Q' = 0 then 0 else 1 := by
  have e : x * x ^ E21 = x ^ (Q' - 1) := by
    rw [show Q' - 1 = E21 + 1 by decide +kernel, Nat.pow_succ, Nat.mul_comm]
  split
  · rename_i h
    rw [Nat.mul_mod, h, Nat.zero_mul, Nat.zero_mod]
  · rename_i h
    rw [e]
    exact MSE.fermat MSE.prime25519 fun hd => h (Nat.mod_eq_zero_of_dvd hd)
theorem inv_bytes (a : N5) : feB (invN a) = bs (le32 ((a.v % Q') ^ E21 % Q')) := by
  rw [feB, invN_mod, Nat.pow_mod]
theorem inv_one_bytes (a : N5) : feB (mul a (invN a)) = if a.v % Q' = 0 then feB n0 else feB ⟨1, 0, 0, 0, 0⟩ := by
  have : (mul a (invN a)).v % Q' = if a.v % Q' = 0 then 0 else 1 := by
    rw [mul_mod, Nat.mul_mod, invN_mod, ← Nat.mul_mod, inv_times]
  rw [feB, this]
  split
  · rfl
  · rfl
theorem feB_zero (a : N5) : (feB a = feB n0) ↔ a.v % Q' = 0 := by
  constructor
  · intro h
    unfold feB at h
    have h1 := congrArg ls h
    exact le32_inj (Nat.lt_of_lt_of_le (Nat.mod_lt a.v (show 0 < Q' by decide)) (by decide)) (Nat.lt_of_lt_of_le (Nat.mod_lt n0.v (show 0 < Q' by decide)) (by decide)) h1
  · intro h
    unfold feB
    rw [h]
    rfl

set_option maxRecDepth 1000000 in
set_option maxHeartbeats 2000000 in
theorem feinverts_any (a : N5) (ha : a.ok) (w : World) :
    Calls Try.prog 9 #[.agg (nvA a)] w fun e w' => e = .returned (.bool true) ∧ Below w.heap.size w w' := by
  have A := Lib.hid (fun w => awake03_any w)
  have NA := Lib.hid (fun w => num_any a ha w)
  have hi : (invN a).ok := nar_ok (invN_nar ha)
  have CI := Lib.hid (fun w => feinvert_any a ha w)
  have CM := Lib.hid (fun w => femul_any a (invN a) ha hi w)
  have BM := Lib.hid (fun w => febytes_any (mul a (invN a)) (mul_ok ha hi) w)
  have B1 := Lib.hid (fun w => febytes_any ⟨1, 0, 0, 0, 0⟩ (small_ok 1 (by decide)) w)
  have B0 := Lib.hid (fun w => febytes_any n0 n0_ok w)
  have BA := Lib.hid (fun w => febytes_any a ha w)
  have BI := Lib.hid (fun w => febytes_any (invN a) hi w)
  rw [inv_bytes] at BI
  rw [inv_one_bytes] at BM
  have HU : a.v % Q' < Q' := Nat.mod_lt _ (by decide)
  have HP := Lib.hid (fun va ba w h => rfpower_any (a.v % Q') va ba w h HU)
  have HZ := feB_zero a
  rw [show nvA n0 = #[.int .u64 0, .int .u64 0, .int .u64 0, .int .u64 0, .int .u64 0] from rfl] at B0
  rw [show nvA ⟨1, 0, 0, 0, 0⟩ = #[.int .u64 1, .int .u64 0, .int .u64 0, .int .u64 0, .int .u64 0] from rfl] at B1
  have IA := Lib.hid (infoV a)
  have II := Lib.hid (infoV (invN a))
  have OI := Lib.hid (one_nvA (invN a))
  have LI := Lib.hid (show (#[.int .u64 0, .int .u64 0, .int .u64 0, .int .u64 0, .int .u64 0] : Array Value).size = (nvA (invN a)).size from rfl)
  have R0 := Lib.hid (show Rw w [(w.heap.size, nvA a, 24)] (w.alloc (.cells (nvA a) 24 (0, 0))) from (Rw.nil w).alloc (nvA a) 24)
  generalize nvA (mul a (invN a)) = rm at *
  generalize nvA (invN a) = ri at *
  generalize nvA a = ra at *
  generalize feB a = XA at *
  generalize feB n0 = XZ at *
  generalize feB ⟨1, 0, 0, 0, 0⟩ = X1 at *
  generalize a.v % Q' = u at *
  have HZH := Lib.hid HZ
  clear ha hi HU HZ
  by_cases hz : u = 0
  · rw [if_pos hz] at BM
    have hx : XA = XZ := HZH.out.2 hz
    rw [hx] at BA
    clear HZH hz
    go_enter Try.func9, Try.ntmps9
    go_upto_region 1 with fail
    generalize w.alloc (.cells ra 24 (0, 0)) = W at R0 ⊢
    generalize hga : w.heap.size = ga at *
    clear hga
    have RA := Lib.hid (R0.out.row 0)
    go_wp2_with (with_reducible refine wpList_load_row rfl 24 (.tmp 1) rfl ga rfl 24 ra (0, 0) _ RA.out Try.underlying24 rfl IA.out ?_)
    refine (CI.out _).mono ?_
    rintro e w1 ⟨rfl, hb1⟩
    have R1 := Lib.hid ((R0.out.on hb1).alloc #[.int .u64 0, .int .u64 0, .int .u64 0, .int .u64 0, .int .u64 0] 24)
    have R2 := Lib.hid (R1.out.store 1 ri)
    have RB := Lib.hid (R1.out.row 1)
    clear hb1 RA R0
    go_upto_region 2 with (with_reducible refine wpList_store_row rfl 24 (.tmp 3) (.tmp 7) rfl w1.heap.size ri rfl rfl 24 #[.int .u64 0, .int .u64 0, .int .u64 0, .int .u64 0, .int .u64 0] RB.out II.out LI.out OI.out ?_)
    simp only [Act.put]
    have R3 := Lib.hid (show Rw w [(ga, ra, 24), (w1.heap.size, ri, 24)] _ from R2.out)
    clear R1 R2 RB
    generalize (w1.alloc (.cells #[.int .u64 0, .int .u64 0, .int .u64 0, .int .u64 0, .int .u64 0] 24 (0, 0))).setRow w1.heap.size ri = w2 at R3 ⊢
    generalize w1.heap.size = gi at R3 ⊢
    have RA := Lib.hid (R3.out.row 0)
    have RB := Lib.hid (R3.out.row 1)
    go_wp2_with (first
      | (with_reducible refine wpList_load_row rfl 24 (.tmp 1) rfl ga rfl 24 ra (0, 0) _ RA.out Try.underlying24 rfl IA.out ?_)
      | (with_reducible refine wpList_load_row rfl 24 (.tmp 3) rfl gi rfl 24 ri (0, 0) _ RB.out Try.underlying24 rfl II.out ?_))
    refine (CM.out _).mono ?_
    rintro e w3 ⟨rfl, hb3⟩
    have R4 := Lib.hid (R3.out.on hb3)
    clear hb3 RA RB R3
    go_wp2_with fail
    refine (BM.out _).mono ?_
    rintro e w4 ⟨rfl, hb4⟩
    have R5 := Lib.hid (R4.out.on hb4)
    clear hb4 R4
    go_wp2_with fail
    refine (B1.out _).mono ?_
    rintro e w5 ⟨rfl, hb5⟩
    have R6 := Lib.hid (R5.out.on hb5)
    clear hb5 R5
    have RA := Lib.hid (R6.out.row 0)
    go_wp2_with (with_reducible refine wpList_load_row rfl 24 (.tmp 1) rfl ga rfl 24 ra (0, 0) _ RA.out Try.underlying24 rfl IA.out ?_)
    refine (BA.out _).mono ?_
    rintro e w6 ⟨rfl, hb6⟩
    have R7 := Lib.hid (R6.out.on hb6)
    clear hb6 R6 RA
    go_wp2_with fail
    refine (B0.out _).mono ?_
    rintro e w7 ⟨rfl, hb7⟩
    have R8 := Lib.hid (R7.out.on hb7)
    clear hb7 R7
    go_wp2_with fail
    refine (B0.out _).mono ?_
    rintro e w8 ⟨rfl, hb8⟩
    have R9 := Lib.hid (R8.out.on hb8)
    clear hb8 R8
    go_wp2_with fail
    generalize w8 = W1 at R9 ⊢
    refine wp_region_held (S := fun w' => Below W1.heap.size W1 w') (by kernel_rfl) ?_
    change wpAnyH _ _ _ _ _ _ _ _ (World.drew _)
    have HS : Below W1.heap.size W1 W1.drew := (Below.refl _ _).drew
    refine wpAnyH_take_at (i := 0) (d := 21) (v := .agg ri) rfl (by kernel_rfl) (by kernel_rfl) (by kernel_rfl) (fun _ _ _ h => h) rfl (Or.inl ⟨by rfl, fun w1 h1 => run_load_row 24 (.tmp 3) rfl gi rfl 24 ri (0, 0) _ ((R9.out.on h1).row 1) Try.underlying24 rfl II.out⟩) HS ?_
    simp only [Act.put, List.setIfInBounds_toArray, List.set_cons_zero, List.set_cons_succ]
    refine wpAnyH_take_at (i := 2) (d := 23) (v := .agg ra) rfl (by kernel_rfl) (by kernel_rfl) (by kernel_rfl) (fun _ _ _ h => h) rfl (Or.inl ⟨by rfl, fun w1 h1 => run_load_row 24 (.tmp 1) rfl ga rfl 24 ra (0, 0) _ ((R9.out.on h1).row 0) Try.underlying24 rfl IA.out⟩) HS ?_
    simp only [Act.put, List.setIfInBounds_toArray, List.set_cons_zero, List.set_cons_succ]
    refine wpAnyH_all (rs := [1]) (by kernel_rfl) (by simp) (List.forall_mem_singleton.2 ?_)
    refine wpOp_call (d := 22) (f := 16) (args := #[.agg ri]) rfl (by rfl) rfl (by go_simp) ?_
    refine (BI.out _).mono ?_
    rintro e v1 ⟨rfl, hb1⟩
    have HS1 := HS.trans (hb1.mono HS.size)
    refine ⟨_, rfl, HS1, ?_⟩
    refine wpAnyH_all (rs := [3]) (by kernel_rfl) (by simp) (List.forall_mem_singleton.2 ?_)
    refine wpOp_call (d := 24) (f := 15) (args := #[.agg ra]) rfl (by rfl) rfl (by go_simp) ?_
    refine (NA.out _).mono ?_
    rintro e v2 ⟨hb2, x2, rfl, hd2⟩
    have HS2 := HS1.trans (hb2.mono HS1.size)
    refine ⟨x2, rfl, HS2, ?_⟩
    simp only [Act.put, List.setIfInBounds_toArray, List.set_cons_zero, List.set_cons_succ]
    refine wpAnyH_all (rs := [4]) (by kernel_rfl) (by simp) (List.forall_mem_singleton.2 ?_)
    refine wpOp_call (d := 25) (f := 29) (args := #[x2]) rfl (by rfl) rfl (by go_simp) ?_
    refine (HP.out _ _ _ hd2).mono ?_
    rintro e v3 ⟨hb3, x3, rfl, hd3⟩
    have HS3 := HS2.trans (hb3.mono HS2.size)
    refine ⟨x3, rfl, HS3, ?_⟩
    refine wpAnyH_all (rs := [5]) (by kernel_rfl) (by simp) (List.forall_mem_singleton.2 ?_)
    refine wpOp_call (d := 26) (f := 18) (args := #[x3]) rfl (by rfl) rfl (by go_simp) ?_
    refine (rfbytes_any _ _ _ _ hd3).mono ?_
    rintro e v4 ⟨rfl, hb4⟩
    have HS4 := HS3.trans (hb4.mono HS3.size)
    refine ⟨_, rfl, HS4, ?_⟩
    simp only [Act.put, List.setIfInBounds_toArray, List.set_cons_zero, List.set_cons_succ]
    refine wpAnyH_all (rs := [6]) (by kernel_rfl) (by simp) (List.forall_mem_singleton.2 ?_)
    refine wpOp_val (d := 27) (v := .bool true) rfl (by rfl) rfl (by go_simp) ⟨HS4, ?_⟩
    simp only [Act.put, List.setIfInBounds_toArray, List.set_cons_zero, List.set_cons_succ]
    refine wpAnyH_all (rs := [7]) (by kernel_rfl) (by simp) (List.forall_mem_singleton.2 ?_)
    refine wpOp_val (d := 28) (v := .bool true) rfl (by rfl) rfl (by go_simp) ⟨HS4, ?_⟩
    simp only [Act.put, List.setIfInBounds_toArray, List.set_cons_zero, List.set_cons_succ]
    refine wpAnyH_take_at (i := 8) (d := 29) (v := .string XZ) rfl (by kernel_rfl) (by kernel_rfl) (by kernel_rfl) (fun _ _ _ h => h) rfl (Or.inl ⟨by rfl, by intro w1 _; go_simp⟩) HS4 ?_
    simp only [Act.put, List.setIfInBounds_toArray, List.set_cons_zero, List.set_cons_succ]
    refine wpAnyH_all (rs := [9]) (by kernel_rfl) (by simp) (List.forall_mem_singleton.2 ?_)
    refine wpOp_val (d := 30) (v := .string XZ) rfl (by rfl) rfl (by go_simp) ⟨HS4, ?_⟩
    simp only [Act.put, List.setIfInBounds_toArray, List.set_cons_zero, List.set_cons_succ]
    refine wpAnyH_all (rs := [10]) (by kernel_rfl) (by simp) (List.forall_mem_singleton.2 ?_)
    refine wpOp_val (d := 31) (v := .bool true) rfl (by rfl) rfl (by go_simp) ⟨HS4, ?_⟩
    simp only [Act.put, List.setIfInBounds_toArray, List.set_cons_zero, List.set_cons_succ]
    refine wpAnyH_all (rs := [11]) (by kernel_rfl) (by simp) (List.forall_mem_singleton.2 ?_)
    refine wpOp_val (d := 32) (v := .bool true) rfl (by rfl) rfl (by go_simp) ⟨HS4, ?_⟩
    simp only [Act.put, List.setIfInBounds_toArray, List.set_cons_zero, List.set_cons_succ]
    refine wpAnyH_all (rs := [12]) (by kernel_rfl) (by simp) (List.forall_mem_singleton.2 ?_)
    refine wpOp_val (d := 33) (v := .bool true) rfl (by rfl) rfl (by go_simp) ⟨HS4, ?_⟩
    simp only [Act.put, List.setIfInBounds_toArray, List.set_cons_zero, List.set_cons_succ]
    refine wpAnyH_all (rs := [13]) (by kernel_rfl) (by simp) (List.forall_mem_singleton.2 ?_)
    refine wpOp_call (d := 34) (f := 22) (args := #[]) rfl (by rfl) rfl (by go_simp) ?_
    refine (A.out _).mono ?_
    rintro e v5 ⟨rfl, hb5⟩
    have HS5 := HS4.trans (hb5.mono HS4.size)
    refine ⟨_, rfl, HS5, ?_⟩
    simp only [Act.put, List.setIfInBounds_toArray, List.set_cons_zero, List.set_cons_succ]
    refine wpAnyH_all (rs := [14]) (by kernel_rfl) (by simp) (List.forall_mem_singleton.2 ?_)
    refine wpOp_val (d := 35) (v := .bool true) rfl (by rfl) rfl (by go_simp) ⟨HS5, ?_⟩
    simp only [Act.put, List.setIfInBounds_toArray, List.set_cons_zero, List.set_cons_succ]
    refine wpAnyH_all (rs := [15]) (by kernel_rfl) (by simp) (List.forall_mem_singleton.2 ?_)
    refine wpOp_val (d := 2) (v := .bool true) rfl (by rfl) rfl (by go_simp) ⟨HS5, ?_⟩
    simp only [Act.put, List.setIfInBounds_toArray, List.set_cons_zero, List.set_cons_succ]
    refine wpAnyH_done (by kernel_rfl) ?_ _
    have hz := (R9.out.on HS5).bel
    clear hb1 hb2 hb3 hb4 hb5 hd2 hd3 HS HS1 HS2 HS3 HS4 HS5
    go_wp2_with fail
    go_ret
    exact ⟨rfl, hz⟩
  · rw [if_neg hz] at BM
    have hx : ¬ XA = XZ := fun h => hz (HZH.out.1 h)
    have hxl : (XA.toList == XZ.toList) = false := ba_beq hx
    clear HZH hz
    go_enter Try.func9, Try.ntmps9
    go_upto_region 1 with fail
    generalize w.alloc (.cells ra 24 (0, 0)) = W at R0 ⊢
    generalize hga : w.heap.size = ga at *
    clear hga
    have RA := Lib.hid (R0.out.row 0)
    go_wp2_with (with_reducible refine wpList_load_row rfl 24 (.tmp 1) rfl ga rfl 24 ra (0, 0) _ RA.out Try.underlying24 rfl IA.out ?_)
    refine (CI.out _).mono ?_
    rintro e w1 ⟨rfl, hb1⟩
    have R1 := Lib.hid ((R0.out.on hb1).alloc #[.int .u64 0, .int .u64 0, .int .u64 0, .int .u64 0, .int .u64 0] 24)
    have R2 := Lib.hid (R1.out.store 1 ri)
    have RB := Lib.hid (R1.out.row 1)
    clear hb1 RA R0
    go_upto_region 2 with (with_reducible refine wpList_store_row rfl 24 (.tmp 3) (.tmp 7) rfl w1.heap.size ri rfl rfl 24 #[.int .u64 0, .int .u64 0, .int .u64 0, .int .u64 0, .int .u64 0] RB.out II.out LI.out OI.out ?_)
    simp only [Act.put]
    have R3 := Lib.hid (show Rw w [(ga, ra, 24), (w1.heap.size, ri, 24)] _ from R2.out)
    clear R1 R2 RB
    generalize (w1.alloc (.cells #[.int .u64 0, .int .u64 0, .int .u64 0, .int .u64 0, .int .u64 0] 24 (0, 0))).setRow w1.heap.size ri = w2 at R3 ⊢
    generalize w1.heap.size = gi at R3 ⊢
    have RA := Lib.hid (R3.out.row 0)
    have RB := Lib.hid (R3.out.row 1)
    go_wp2_with (first
      | (with_reducible refine wpList_load_row rfl 24 (.tmp 1) rfl ga rfl 24 ra (0, 0) _ RA.out Try.underlying24 rfl IA.out ?_)
      | (with_reducible refine wpList_load_row rfl 24 (.tmp 3) rfl gi rfl 24 ri (0, 0) _ RB.out Try.underlying24 rfl II.out ?_))
    refine (CM.out _).mono ?_
    rintro e w3 ⟨rfl, hb3⟩
    have R4 := Lib.hid (R3.out.on hb3)
    clear hb3 RA RB R3
    go_wp2_with fail
    refine (BM.out _).mono ?_
    rintro e w4 ⟨rfl, hb4⟩
    have R5 := Lib.hid (R4.out.on hb4)
    clear hb4 R4
    go_wp2_with fail
    refine (B1.out _).mono ?_
    rintro e w5 ⟨rfl, hb5⟩
    have R6 := Lib.hid (R5.out.on hb5)
    clear hb5 R5
    have RA := Lib.hid (R6.out.row 0)
    go_wp2_with (with_reducible refine wpList_load_row rfl 24 (.tmp 1) rfl ga rfl 24 ra (0, 0) _ RA.out Try.underlying24 rfl IA.out ?_)
    refine (BA.out _).mono ?_
    rintro e w6 ⟨rfl, hb6⟩
    have R7 := Lib.hid (R6.out.on hb6)
    clear hb6 R6 RA
    go_wp2_with fail
    refine (B0.out _).mono ?_
    rintro e w7 ⟨rfl, hb7⟩
    have R8 := Lib.hid (R7.out.on hb7)
    clear hb7 R7
    go_wp2_with fail
    have R9 := R8
    clear R8
    generalize w7 = W1 at R9 ⊢
    refine wp_region_held (S := fun w' => Below W1.heap.size W1 w') (by kernel_rfl) ?_
    change wpAnyH _ _ _ _ _ _ _ _ (World.drew _)
    have HS : Below W1.heap.size W1 W1.drew := (Below.refl _ _).drew
    refine wpAnyH_take_at (i := 0) (d := 21) (v := .agg ri) rfl (by kernel_rfl) (by kernel_rfl) (by kernel_rfl) (fun _ _ _ h => h) rfl (Or.inl ⟨by rfl, fun w1 h1 => run_load_row 24 (.tmp 3) rfl gi rfl 24 ri (0, 0) _ ((R9.out.on h1).row 1) Try.underlying24 rfl II.out⟩) HS ?_
    simp only [Act.put, List.setIfInBounds_toArray, List.set_cons_zero, List.set_cons_succ]
    refine wpAnyH_take_at (i := 2) (d := 23) (v := .agg ra) rfl (by kernel_rfl) (by kernel_rfl) (by kernel_rfl) (fun _ _ _ h => h) rfl (Or.inl ⟨by rfl, fun w1 h1 => run_load_row 24 (.tmp 1) rfl ga rfl 24 ra (0, 0) _ ((R9.out.on h1).row 0) Try.underlying24 rfl IA.out⟩) HS ?_
    simp only [Act.put, List.setIfInBounds_toArray, List.set_cons_zero, List.set_cons_succ]
    refine wpAnyH_all (rs := [1]) (by kernel_rfl) (by simp) (List.forall_mem_singleton.2 ?_)
    refine wpOp_call (d := 22) (f := 16) (args := #[.agg ri]) rfl (by rfl) rfl (by go_simp) ?_
    refine (BI.out _).mono ?_
    rintro e v1 ⟨rfl, hb1⟩
    have HS1 := HS.trans (hb1.mono HS.size)
    refine ⟨_, rfl, HS1, ?_⟩
    refine wpAnyH_all (rs := [3]) (by kernel_rfl) (by simp) (List.forall_mem_singleton.2 ?_)
    refine wpOp_call (d := 24) (f := 15) (args := #[.agg ra]) rfl (by rfl) rfl (by go_simp) ?_
    refine (NA.out _).mono ?_
    rintro e v2 ⟨hb2, x2, rfl, hd2⟩
    have HS2 := HS1.trans (hb2.mono HS1.size)
    refine ⟨x2, rfl, HS2, ?_⟩
    simp only [Act.put, List.setIfInBounds_toArray, List.set_cons_zero, List.set_cons_succ]
    refine wpAnyH_all (rs := [4]) (by kernel_rfl) (by simp) (List.forall_mem_singleton.2 ?_)
    refine wpOp_call (d := 25) (f := 29) (args := #[x2]) rfl (by rfl) rfl (by go_simp) ?_
    refine (HP.out _ _ _ hd2).mono ?_
    rintro e v3 ⟨hb3, x3, rfl, hd3⟩
    have HS3 := HS2.trans (hb3.mono HS2.size)
    refine ⟨x3, rfl, HS3, ?_⟩
    refine wpAnyH_all (rs := [5]) (by kernel_rfl) (by simp) (List.forall_mem_singleton.2 ?_)
    refine wpOp_call (d := 26) (f := 18) (args := #[x3]) rfl (by rfl) rfl (by go_simp) ?_
    refine (rfbytes_any _ _ _ _ hd3).mono ?_
    rintro e v4 ⟨rfl, hb4⟩
    have HS4 := HS3.trans (hb4.mono HS3.size)
    refine ⟨_, rfl, HS4, ?_⟩
    simp only [Act.put, List.setIfInBounds_toArray, List.set_cons_zero, List.set_cons_succ]
    refine wpAnyH_all (rs := [6]) (by kernel_rfl) (by simp) (List.forall_mem_singleton.2 ?_)
    refine wpOp_val (d := 27) (v := .bool true) rfl (by rfl) rfl (by go_simp) ⟨HS4, ?_⟩
    simp only [Act.put, List.setIfInBounds_toArray, List.set_cons_zero, List.set_cons_succ]
    refine wpAnyH_all (rs := [7]) (by kernel_rfl) (by simp) (List.forall_mem_singleton.2 ?_)
    refine wpOp_val (d := 28) (v := .bool true) rfl (by rfl) rfl (by go_simp) ⟨HS4, ?_⟩
    simp only [Act.put, List.setIfInBounds_toArray, List.set_cons_zero, List.set_cons_succ]
    refine wpAnyH_take_at (i := 8) (d := 29) (v := .string X1) rfl (by kernel_rfl) (by kernel_rfl) (by kernel_rfl) (fun _ _ _ h => h) rfl (Or.inl ⟨by rfl, by intro w1 _; go_simp⟩) HS4 ?_
    simp only [Act.put, List.setIfInBounds_toArray, List.set_cons_zero, List.set_cons_succ]
    refine wpAnyH_all (rs := [9]) (by kernel_rfl) (by simp) (List.forall_mem_singleton.2 ?_)
    refine wpOp_val (d := 30) (v := .string X1) rfl (by rfl) rfl (by go_simp) ⟨HS4, ?_⟩
    simp only [Act.put, List.setIfInBounds_toArray, List.set_cons_zero, List.set_cons_succ]
    refine wpAnyH_all (rs := [10]) (by kernel_rfl) (by simp) (List.forall_mem_singleton.2 ?_)
    refine wpOp_val (d := 31) (v := .bool true) rfl (by rfl) rfl (by go_simp) ⟨HS4, ?_⟩
    simp only [Act.put, List.setIfInBounds_toArray, List.set_cons_zero, List.set_cons_succ]
    refine wpAnyH_all (rs := [11]) (by kernel_rfl) (by simp) (List.forall_mem_singleton.2 ?_)
    refine wpOp_val (d := 32) (v := .bool true) rfl (by rfl) rfl (by go_simp) ⟨HS4, ?_⟩
    simp only [Act.put, List.setIfInBounds_toArray, List.set_cons_zero, List.set_cons_succ]
    refine wpAnyH_all (rs := [12]) (by kernel_rfl) (by simp) (List.forall_mem_singleton.2 ?_)
    refine wpOp_val (d := 33) (v := .bool true) rfl (by rfl) rfl (by go_simp) ⟨HS4, ?_⟩
    simp only [Act.put, List.setIfInBounds_toArray, List.set_cons_zero, List.set_cons_succ]
    refine wpAnyH_all (rs := [13]) (by kernel_rfl) (by simp) (List.forall_mem_singleton.2 ?_)
    refine wpOp_call (d := 34) (f := 22) (args := #[]) rfl (by rfl) rfl (by go_simp) ?_
    refine (A.out _).mono ?_
    rintro e v5 ⟨rfl, hb5⟩
    have HS5 := HS4.trans (hb5.mono HS4.size)
    refine ⟨_, rfl, HS5, ?_⟩
    simp only [Act.put, List.setIfInBounds_toArray, List.set_cons_zero, List.set_cons_succ]
    refine wpAnyH_all (rs := [14]) (by kernel_rfl) (by simp) (List.forall_mem_singleton.2 ?_)
    refine wpOp_val (d := 35) (v := .bool true) rfl (by rfl) rfl (by go_simp) ⟨HS5, ?_⟩
    simp only [Act.put, List.setIfInBounds_toArray, List.set_cons_zero, List.set_cons_succ]
    refine wpAnyH_all (rs := [15]) (by kernel_rfl) (by simp) (List.forall_mem_singleton.2 ?_)
    refine wpOp_val (d := 2) (v := .bool true) rfl (by rfl) rfl (by go_simp) ⟨HS5, ?_⟩
    simp only [Act.put, List.setIfInBounds_toArray, List.set_cons_zero, List.set_cons_succ]
    refine wpAnyH_done (by kernel_rfl) ?_ _
    have hz := (R9.out.on HS5).bel
    clear hb1 hb2 hb3 hb4 hb5 hd2 hd3 HS HS1 HS2 HS3 HS4 HS5
    go_wp2_with fail
    go_ret
    exact ⟨rfl, hz⟩
end Go.Proofs.Ythlmphloalbhnaa
