/-
  poly.clamp, poly.carry: the walks.
-/
import Derived.Test.YtkfacnegfkgcgaaPWa
namespace Go.Proofs.Ytkfacnegfkgcgaa
open Go.RowKit MS

theorem and_con (x m r : Nat) (hx : x < 18446744073709551616) (hm : m < 18446744073709551616) (h : x &&& m = r) : bits .and .u64 (x : Int) (m : Int) = ((r : Nat) : Int) := by
  rw [u64_and_nat x m hx hm, h]
theorem zeros5 : (#[.int .u64 0, .int .u64 0, .int .u64 0, .int .u64 0, .int .u64 0] : Array Value) = rowF (fun _ => 0) := rfl
theorem clamp_row (X : Nat → Nat) : rowF (upd (upd (upd (upd X 1 (c1 (X 1))) 2 (c2 (X 2))) 3 (c3 (X 3))) 4 (c4 (X 4))) = rowF (fun i => if i = 1 then c1 (X 1) else if i = 2 then c2 (X 2) else if i = 3 then c3 (X 3) else if i = 4 then c4 (X 4) else X i) := by
  refine rowF_congr fun i hi => ?_
  have : i = 0 ∨ i = 1 ∨ i = 2 ∨ i = 3 ∨ i = 4 := by omega
  rcases this with rfl | rfl | rfl | rfl | rfl <;> simp [upd]
theorem pclamp_row (v : Nat) : rowF (upd (upd (upd (upd (getL (splitL v)) 1 (c1 (getL (splitL v) 1))) 2 (c2 (getL (splitL v) 2))) 3 (c3 (getL (splitL v) 3))) 4 (c4 (getL (splitL v) 4))) = lvA (pclampL v) := by
  refine rowF_congr fun i hi => ?_
  have : i = 0 ∨ i = 1 ∨ i = 2 ∨ i = 3 ∨ i = 4 := by omega
  rcases this with rfl | rfl | rfl | rfl | rfl <;> simp [upd, getL, pclampL]

set_option maxRecDepth 100000 in
set_option maxHeartbeats 1000000 in
theorem polyclamp_any (s : ByteArray) (w : World) (hs : s.size = 16) :
    Calls Try.prog 38 #[.string s] w fun e w' => e = .returned (.agg (lvA (pclampL (leb (ls s))))) ∧ Below w.heap.size w w' := by
  have S := Lib.hid (fun w => split_any s w hs)
  have hv := leb_lt (ls s)
  rw [length_ls, hs, show (256 : Nat) ^ 16 = 340282366920938463463374607431768211456 by decide] at hv
  have hb := getL_26 (splitL_in hv).1
  have HRES := Lib.hid (pclamp_row (leb (ls s)))
  have HLA := Lib.hid (show lvA (splitL (leb (ls s))) = rowF (getL (splitL (leb (ls s)))) from rfl)
  rw [HLA.out] at S
  have b1 := hb 1
  have b2 := hb 2
  have b3 := hb 3
  have b4 := hb 4
  generalize getL (splitL (leb (ls s))) = X at *
  generalize lvA (pclampL (leb (ls s))) = res at HRES ⊢
  have a1 := and_con (X 1) 67108611 _ (by omega) (by decide) (and_c1 (X 1) b1)
  have a2 := and_con (X 2) 67092735 _ (by omega) (by decide) (and_c2 (X 2) b2)
  have a3 := and_con (X 3) 66076671 _ (by omega) (by decide) (and_c3 (X 3) b3)
  have a4 := and_con (X 4) 1048575 _ (by omega) (by decide) (and_c4 (X 4))
  rw [show ((67108611 : Nat) : Int) = 67108611 from rfl] at a1
  rw [show ((67092735 : Nat) : Int) = 67092735 from rfl] at a2
  rw [show ((66076671 : Nat) : Int) = 66076671 from rfl] at a3
  rw [show ((1048575 : Nat) : Int) = 1048575 from rfl] at a4
  have R0 := (Rw.nil w).alloc #[.int .u64 0, .int .u64 0, .int .u64 0, .int .u64 0, .int .u64 0] 61
  simp only [List.nil_append] at R0
  have RR0 := Lib.hid R0
  have IX := Lib.hid (infoL X)
  have OX := Lib.hid (one_rowF X)
  have LX := Lib.hid (show (#[.int .u64 0, .int .u64 0, .int .u64 0, .int .u64 0, .int .u64 0] : Array Value).size = (rowF X).size from rfl)
  clear R0 hb hv hs HLA
  go_enter Try.func38, Try.ntmps38
  go_wp2_with fail
  refine (S.out _).mono ?_
  rintro e w1 ⟨rfl, hb⟩
  have R1 := (RR0.out.on hb).alloc #[.int .u64 0, .int .u64 0, .int .u64 0, .int .u64 0, .int .u64 0] 61
  simp only [List.cons_append, List.nil_append] at R1
  have RR1 := Lib.hid R1
  have RW := Lib.hid (R1.row 1)
  have R2 := R1.store 1 (rowF X)
  simp only [List.set_cons_zero, List.set_cons_succ] at R2
  have RR2 := Lib.hid R2
  clear hb RR0 R1 R2
  go_upto_region 2 with (with_reducible refine wpList_store_row rfl 61 (.tmp 3) (.tmp 5) rfl w1.heap.size (rowF X) rfl rfl 61 #[.int .u64 0, .int .u64 0, .int .u64 0, .int .u64 0, .int .u64 0] RW.out IX.out LX.out OX.out ?_)
  generalize World.setRow _ _ (rowF X) = w2 at RR2 ⊢
  generalize w1.heap.size = g at RR2 ⊢
  generalize hga : w.heap.size = ga at *
  have HGA := Lib.hid hga
  clear RW RR1 IX OX LX hga
  have k1 := RR2.out.cell 1 1 (rowF_get _ 1 (by decide))
  have f1 := RR2.out.free 1 1
  have p1 := RR2.out.put 1 1 (.int .u64 ((c1 (X 1) : Nat) : Int))
  rw [rowF_set _ _ _ (by decide)] at p1
  have P1 := Lib.hid p1
  have k2 := p1.cell 1 2 (rowF_get _ 2 (by decide))
  have f2 := p1.free 1 2
  have p2 := p1.put 1 2 (.int .u64 ((c2 (X 2) : Nat) : Int))
  rw [rowF_set _ _ _ (by decide)] at p2
  have k3 := p2.cell 1 3 (rowF_get _ 3 (by decide))
  have f3 := p2.free 1 3
  have p3 := p2.put 1 3 (.int .u64 ((c3 (X 3) : Nat) : Int))
  rw [rowF_set _ _ _ (by decide)] at p3
  have k4 := p3.cell 1 4 (rowF_get _ 4 (by decide))
  have f4 := p3.free 1 4
  have p4 := p3.put 1 4 (.int .u64 ((c4 (X 4) : Nat) : Int))
  rw [rowF_set _ _ _ (by decide), HRES.out] at p4
  have P4 := Lib.hid p4
  clear p1 p2 p3 p4 P1
  rw [show upd X 1 (c1 (X 1)) 2 = X 2 from rfl] at k2
  rw [show upd (upd X 1 (c1 (X 1))) 2 (c2 (X 2)) 3 = X 3 from rfl] at k3
  rw [show upd (upd (upd X 1 (c1 (X 1))) 2 (c2 (X 2))) 3 (c3 (X 3)) 4 = X 4 from rfl] at k4
  generalize c1 (X 1) = y1 at *
  generalize c2 (X 2) = y2 at *
  generalize c3 (X 3) = y3 at *
  generalize c4 (X 4) = y4 at *
  generalize X 1 = x1 at *
  generalize X 2 = x2 at *
  generalize X 3 = x3 at *
  generalize X 4 = x4 at *
  go_upto_region 6 with fail
  generalize World.setCell _ ⟨g, 4, none⟩ _ = w9 at P4 ⊢
  have IR := Lib.hid (show (Try.prog.info? 61).map (·.size) = some res.size from by rw [← HRES.out]; exact infoL _)
  have OR := Lib.hid (show res.all (·.oneCell') = true from by rw [← HRES.out]; exact one_rowF _)
  have LR := Lib.hid (show (#[.int .u64 0, .int .u64 0, .int .u64 0, .int .u64 0, .int .u64 0] : Array Value).size = res.size from by rw [← HRES.out]; rfl)
  have RWA := Lib.hid (P4.out.row 1)
  have RWB := Lib.hid (P4.out.row 0)
  clear k1 k2 k3 k4 f1 f2 f3 f4 a1 a2 a3 a4
  go_wp2_with (first
    | (with_reducible refine wpList_load_row rfl 61 (.tmp 3) rfl g rfl 61 res (0, 0) _ RWA.out Try.underlying61 rfl IR.out ?_)
    | (with_reducible refine wpList_store_row rfl 61 (.tmp 2) (.tmp 22) rfl ga res rfl rfl 61 #[.int .u64 0, .int .u64 0, .int .u64 0, .int .u64 0, .int .u64 0] RWB.out IR.out LR.out OR.out ?_))
  have R6 := P4.out.store 0 res
  exact bodyPost_ret (results_cell_row rfl _ _ ga 61 res (0, 0) _ rfl (R6.row 0) Try.underlying61 rfl IR.out) rfl ⟨rfl, R6.bel⟩
end Go.Proofs.Ytkfacnegfkgcgaa
