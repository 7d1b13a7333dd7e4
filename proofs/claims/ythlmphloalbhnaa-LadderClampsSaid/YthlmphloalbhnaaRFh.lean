/-
  mailsackref03.Bytes: the walk.
-/
import Derived.Test.YthlmphloalbhnaaRFg
import Derived.Test.YthlmphloalbhnaaFeB
import Derived.Test.YthlmphloalbhnaaApp2
namespace Go.Proofs.Ythlmphloalbhnaa
open Go.RowKit MS

theorem le32_two (u j : Nat) (hj : j < 16) : vls ((le32 u).take (2 * j)) ++ [.int .u8 (((u / 65536 ^ j % 65536 : Nat) : Int) % 256), .int .u8 (((u / 65536 ^ j % 65536 : Nat) : Int) / 256)] = vls ((le32 u).take (2 * (j + 1))) := by
  have hl := length_le32 u
  have h0 : 2 * j < (le32 u).length := by omega
  have h1 : 2 * j + 1 < (le32 u).length := by omega
  have e : (le32 u).take (2 * (j + 1)) = (le32 u).take (2 * j) ++ [(le32 u)[2 * j]'h0, (le32 u)[2 * j + 1]'h1] := by
    rw [show 2 * (j + 1) = 2 * j + 1 + 1 by omega, List.take_succ_eq_append_getElem h1, List.take_succ_eq_append_getElem h0, List.append_assoc]
    rfl
  have p0 : (2 : Nat) ^ (8 * (2 * j)) = 65536 ^ j := by rw [show 8 * (2 * j) = 16 * j by omega, Nat.pow_mul]
  have p1 : (2 : Nat) ^ (8 * (2 * j + 1)) = 65536 ^ j * 256 := by rw [show 8 * (2 * j + 1) = 16 * j + 8 by omega, Nat.pow_add, Nat.pow_mul]
  have k0 : ((le32 u)[2 * j]'h0).toNat = u / 65536 ^ j % 65536 % 256 := by
    simp only [le32, List.getElem_map, List.getElem_range, p0]
    rw [UInt8.toNat_ofNat', Nat.mod_mod_of_dvd _ (by decide : 256 ∣ 65536)]
    exact Nat.mod_mod _ _
  have k1 : ((le32 u)[2 * j + 1]'h1).toNat = u / 65536 ^ j % 65536 / 256 := by
    simp only [le32, List.getElem_map, List.getElem_range, p1]
    rw [UInt8.toNat_ofNat', ← Nat.div_div_eq_div_mul]
    have : ∀ y : Nat, y / 256 % 256 % 2 ^ 8 = y % 65536 / 256 := by intro y; omega
    exact this _
  rw [e]
  unfold vls
  rw [List.map_append]
  congr 1
  simp only [List.map_cons, List.map_nil, valB, k0, k1, Int.natCast_ediv, Int.natCast_emod]
  rfl

theorem wr_u8 (y : Int) (h0 : 0 ≤ y) (h1 : y < 256) : IntKind.u8.wrap y = y := by
  simp [IntKind.wrap, IntKind.signed, IntKind.bits]; omega
theorem wr_i64 (y : Int) (h0 : 0 ≤ y) (h1 : y < 65536) : IntKind.i64.wrap y = y := by
  simp [IntKind.wrap, IntKind.signed, IntKind.bits]; omega

theorem run_build_u8 (u : Value) (w : World) (h : u.oneCell' = true) : (Instr.buildSlice 54 1 #[(0, u)]).run Try.prog w = .ok (.slice (some ⟨w.heap.size, 0, none⟩) 1 1) (w.alloc (.cells #[u] 5 (0, 0))) := by
  cases u <;> simp [Value.oneCell'] at h <;> go_simp

set_option maxRecDepth 1000000 in
set_option maxHeartbeats 2000000 in
theorem rfbytes_any (u : Nat) (va : Value) (ba : Nat) (w : World) (ha : DS w ba va 16 u) :
    Calls Try.prog 18 #[va] w fun e w' => e = .returned (.string (bs (le32 u))) ∧ Below w.heap.size w w' := by
  obtain ⟨i0, hi, hz0, hz1, hz2⟩ : ∃ i, Try.prog.info? 5 = some i ∧ i.zero = some (.int .u8 0) ∧ i.size = 1 ∧ i.bytes = 1 := ⟨_, rfl, rfl, rfl, rfl⟩
  obtain ⟨ga, ca, rfl, -, -⟩ := ha.form
  have HA := Lib.hid ha.cells
  have hown0 : w.ownsRow w.heap.size 5 1 (.slice none 0 0) 0 (vls ((le32 u).take 0)) := World.ownsRow_nil _ _ _ _
  clear ha
  go_enter Try.func18, Try.ntmps18
  go_wp2_with fail
  go_loopw [3, 4] (fun x i wr => ∃ j : Nat, j ≤ 16 ∧ i = .int .i64 j ∧ wr.ownsRow w.heap.size 5 1 x (2 * j) (vls ((le32 u).take (2 * j))) ∧ Below w.heap.size w wr) (fun _ i _ => 16 - (intOf i).toNat)
  case atStart => exact ⟨0, by omega, rfl, hown0, Below.refl _ _⟩
  case round =>
    obtain ⟨j, hj, rfl, ho, hb⟩ := hrel
    have HOWN := Lib.hid ho
    have HBL := Lib.hid hb
    have HJ := Lib.hid hj
    clear ho hown0 hj hb
    by_cases hlt : j < 16
    · have j1 : (j : Int) < 16 := by omega
      have j0 : (0 : Int) ≤ j := by omega
      have hc : ∀ w', Below w.heap.size w w' → w'.cell? ⟨ga, j, none⟩ = some (.int .i64 ((u / 65536 ^ j % 65536 : Nat) : Int)) := fun w' h => HA.out w' h j hlt
      have HT := Lib.hid (le32_two u j hlt)
      have hx := dig_lt 65536 (by decide) u j
      generalize u / 65536 ^ j % 65536 = x at *
      have x1 : (x : Int) < 65536 := by omega
      have x0 : (0 : Int) ≤ (x : Int) := by omega
      have HC := Lib.hid hc
      have HLT := Lib.hid hlt
      clear hx hlt hc
      go_wp2_with fail
      refine wp_region_held (S := fun w' => Below w.heap.size w w') (by kernel_rfl) ?_
      change wpAnyH _ _ _ _ _ _ _ _ (World.drew _)
      have HS : Below w.heap.size w wr.drew := HBL.out.drew
      refine wpAnyH_take_at (i := 0) (d := 9) (v := u3) rfl (by kernel_rfl) (by kernel_rfl) (by kernel_rfl) (fun _ _ _ h => h) rfl (Or.inl ⟨by rfl, by intro w1 _; go_simp⟩) HS ?_
      simp only [Act.put, List.setIfInBounds_toArray, List.set_cons_zero, List.set_cons_succ]
      refine wpAnyH_take_at (i := 1) (d := 10) (v := .slice (some ⟨ga, 0, none⟩) 16 ca) rfl (by kernel_rfl) (by kernel_rfl) (by kernel_rfl) (fun _ _ _ h => h) rfl (Or.inl ⟨by rfl, by intro w1 _; go_simp⟩) HS ?_
      simp only [Act.put, List.setIfInBounds_toArray, List.set_cons_zero, List.set_cons_succ]
      refine wpAnyH_take_at (i := 2) (d := 11) (v := .int .i64 j) rfl (by kernel_rfl) (by kernel_rfl) (by kernel_rfl) (fun _ _ _ h => h) rfl (Or.inl ⟨by rfl, by intro w1 _; go_simp⟩) HS ?_
      simp only [Act.put, List.setIfInBounds_toArray, List.set_cons_zero, List.set_cons_succ]
      refine wpAnyH_take_at (i := 3) (d := 12) (v := .pointer (some ⟨ga, j, none⟩)) rfl (by kernel_rfl) (by kernel_rfl) (by kernel_rfl) (fun _ _ _ h => h) rfl (Or.inl ⟨by rfl, by intro w1 _; go_simp⟩) HS ?_
      simp only [Act.put, List.setIfInBounds_toArray, List.set_cons_zero, List.set_cons_succ]
      refine wpAnyH_take_at (i := 4) (d := 13) (v := .int .i64 x) rfl (by kernel_rfl) (by kernel_rfl) (by kernel_rfl) (fun _ _ _ h => h) rfl (Or.inl ⟨by rfl, by intro w1 h1; have hc := HC.out w1 h1; go_simp⟩) HS ?_
      simp only [Act.put, List.setIfInBounds_toArray, List.set_cons_zero, List.set_cons_succ]
      refine wpAnyH_take_at (i := 5) (d := 14) (v := .int .i64 ((x : Int) % 256)) rfl (by kernel_rfl) (by kernel_rfl) (by kernel_rfl) (fun _ _ _ h => h) rfl (Or.inl ⟨by rfl, by intro w1 _; go_simp; exact Int.tmod_eq_emod_of_nonneg x0⟩) HS ?_
      simp only [Act.put, List.setIfInBounds_toArray, List.set_cons_zero, List.set_cons_succ]
      refine wpAnyH_take_at (i := 6) (d := 15) (v := .int .u8 ((x : Int) % 256)) rfl (by kernel_rfl) (by kernel_rfl) (by kernel_rfl) (fun _ _ _ h => h) rfl (Or.inl ⟨by rfl, by intro w1 _; go_simp; exact wr_u8 _ (by omega) (by omega)⟩) HS ?_
      simp only [Act.put, List.setIfInBounds_toArray, List.set_cons_zero, List.set_cons_succ]
      refine wpAnyH_take_at (i := 9) (d := 18) (v := .slice (some ⟨ga, 0, none⟩) 16 ca) rfl (by kernel_rfl) (by kernel_rfl) (by kernel_rfl) (fun _ _ _ h => h) rfl (Or.inl ⟨by rfl, by intro w1 _; go_simp⟩) HS ?_
      simp only [Act.put, List.setIfInBounds_toArray, List.set_cons_zero, List.set_cons_succ]
      refine wpAnyH_take_at (i := 10) (d := 19) (v := .int .i64 j) rfl (by kernel_rfl) (by kernel_rfl) (by kernel_rfl) (fun _ _ _ h => h) rfl (Or.inl ⟨by rfl, by intro w1 _; go_simp⟩) HS ?_
      simp only [Act.put, List.setIfInBounds_toArray, List.set_cons_zero, List.set_cons_succ]
      refine wpAnyH_take_at (i := 11) (d := 20) (v := .pointer (some ⟨ga, j, none⟩)) rfl (by kernel_rfl) (by kernel_rfl) (by kernel_rfl) (fun _ _ _ h => h) rfl (Or.inl ⟨by rfl, by intro w1 _; go_simp⟩) HS ?_
      simp only [Act.put, List.setIfInBounds_toArray, List.set_cons_zero, List.set_cons_succ]
      refine wpAnyH_take_at (i := 12) (d := 21) (v := .int .i64 x) rfl (by kernel_rfl) (by kernel_rfl) (by kernel_rfl) (fun _ _ _ h => h) rfl (Or.inl ⟨by rfl, by intro w1 h1; have hc := HC.out w1 h1; go_simp⟩) HS ?_
      simp only [Act.put, List.setIfInBounds_toArray, List.set_cons_zero, List.set_cons_succ]
      refine wpAnyH_take_at (i := 13) (d := 22) (v := .int .i64 ((x : Int) / 256)) rfl (by kernel_rfl) (by kernel_rfl) (by kernel_rfl) (fun _ _ _ h => h) rfl (Or.inl ⟨by rfl, by intro w1 _; go_simp; exact wr_i64 _ (by omega) (by omega)⟩) HS ?_
      simp only [Act.put, List.setIfInBounds_toArray, List.set_cons_zero, List.set_cons_succ]
      refine wpAnyH_take_at (i := 14) (d := 23) (v := .int .u8 ((x : Int) / 256)) rfl (by kernel_rfl) (by kernel_rfl) (by kernel_rfl) (fun _ _ _ h => h) rfl (Or.inl ⟨by rfl, by intro w1 _; go_simp; exact wr_u8 _ (by omega) (by omega)⟩) HS ?_
      simp only [Act.put, List.setIfInBounds_toArray, List.set_cons_zero, List.set_cons_succ]
      refine two_app (i1 := 7) (i2 := 8) (i3 := 15) (i4 := 16) (i5 := 17) (w0 := w) (d1 := 16) (d2 := 17) (d3 := 24) (d4 := 25) (d5 := 3) (s0 := 9) (x1 := 15) (x3 := 23) (U := 54) (E := 5) (B := 1) (n := 2 * j) (v := u3) (u1 := .int .u8 ((x : Int) % 256)) (u2 := .int .u8 ((x : Int) / 256)) (xs := vls ((le32 u).take (2 * j)))
        (by rfl) (by rfl) (by rfl) (by rfl) (by rfl) (by rfl) (by rfl) (by rfl) (by rfl) (by rfl) (by rfl) (by rfl) (by rfl) (by rfl) (by rfl) (by rfl) (by rfl) (by rfl) (by rfl) (by rfl)
        (by kernel_rfl) (by kernel_rfl) (by kernel_rfl) (by kernel_rfl) (by kernel_rfl) (by kernel_rfl) (by kernel_rfl) (by kernel_rfl) (by decide) (by simp) Try.underlying54 hi hz0 hz1 hz2 rfl run_build_u8 (by rfl) (by rfl) (by rfl) (by rfl) (by rfl) HOWN.out HS (by have := HLT.out; unfold maxLen; omega) (by have := HLT.out; omega) ?_
      intro t1 t2 t3 t4 w1 ho1 hb1
      rw [HT.out] at ho1
      have HO1 := Lib.hid ho1
      have HB1 := Lib.hid hb1
      clear ho1 hb1
      simp only [Act.put, List.setIfInBounds_toArray, List.set_cons_zero, List.set_cons_succ]
      go_wp2_with fail
      go_roundw
      case rel => exact ⟨j + 1, HLT.out, by go_num, HO1.out, HB1.out⟩
      case measure => simp [intOf]; omega
    · have j1 : ¬ (j : Int) < 16 := by omega
      have hj16 : j = 16 := by have := HJ.out; omega
      subst hj16
      obtain ⟨g, cap, rfl, -, -⟩ := HOWN.out.form (by decide)
      have hconv := conv_out (le32 u) 32 (length_le32 u) (show wr.ownsRow w.heap.size _ 1 (.slice (some ⟨g, 0, none⟩) 32 cap) 32 (vls (le32 u)) from by have := HOWN.out; rwa [List.take_of_length_le (by rw [length_le32]; omega)] at this)
      clear hlt
      go_wp2_with fail
      go_ret
      exact ⟨rfl, HBL.out⟩
end Go.Proofs.Ythlmphloalbhnaa
