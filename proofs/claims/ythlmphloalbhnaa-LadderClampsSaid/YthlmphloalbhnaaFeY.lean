/-
  mailsacklaw03.FeSwaps: the walk.
-/
import Derived.Test.YthlmphloalbhnaaFeW
namespace Go.Proofs.Ythlmphloalbhnaa
open Go.RowKit MS

theorem wpList_load_row_g {P : Program} {ops : Array Oper} {rest : List Oper} {o : Oper} {a : Act} {w : World} {Q : Exit → Act → World → Prop} (hw : Region.wanted o (yielded ops a.tmps) = true) (ty : TypeId) (x : Operand) (ho : o.op = .load ty x)
    (g : Nat) (hx : a.eval x = .pointer (some ⟨g, 0, none⟩)) (t : TypeId) (cs : Array Value) (fr : Nat × Nat) (d : TypeDesc) (hg : w.heap[g]? = some (.cells cs t fr))
    (hu : P.underlying ty = some d) (hd : (match d with | .struct _ | .array _ _ => true | _ => false) = true) (hi : (P.info? ty).map (·.size) = some cs.size)
    (h : wpList P ops Q rest (a.put o.dst (.agg cs)) w) : wpList P ops Q (o :: rest) a w :=
  BigFrame.wpList_want hw fun _ hK => wp_load_row ty x ho g hx t cs fr d hg hu hd hi (hK _ _ h)
set_option maxRecDepth 100000 in
set_option maxHeartbeats 2000000 in
theorem feswaps_any (a : N5) (ha : a.ok) (b : N5) (hb : b.ok) (yes : Bool) (w : World) :
    Calls Try.prog 7 #[.agg (nvA a), .agg (nvA b), .bool yes] w fun e w' => e = .returned (.bool true) ∧ Below w.heap.size w w' := by
  have A := Lib.hid (fun w => awake03_any w)
  have S := Lib.hid (fun w => swap_any a b yes ha hb w)
  have IA := Lib.hid (infoV a)
  have IB := Lib.hid (infoV b)
  have OA := Lib.hid (one_nvA a)
  have OB := Lib.hid (one_nvA b)
  have LA := Lib.hid (show (#[.int .u64 0, .int .u64 0, .int .u64 0, .int .u64 0, .int .u64 0] : Array Value).size = (nvA a).size from rfl)
  have LB := Lib.hid (show (#[.int .u64 0, .int .u64 0, .int .u64 0, .int .u64 0, .int .u64 0] : Array Value).size = (nvA b).size from rfl)
  have QA := fun w => run_eql_num a w
  have QB := fun w => run_eql_num b w
  have R0 := Lib.hid (show Rw w [(w.heap.size, nvA a, 24), (w.heap.size + 1, nvA b, 24)] ((w.alloc (.cells (nvA a) 24 (0, 0))).alloc (.cells (nvA b) 24 (0, 0))) from rw2 w (nvA a) (nvA b))
  have S1 := Lib.hid (show ∀ w, yes = true → Calls Try.prog 27 #[.agg (nvA a), .agg (nvA b), .bool true] w fun e w' => e = .returned (.tuple #[.agg (nvA b), .agg (nvA a)]) ∧ Below w.heap.size w w' from fun w h => by have := S.out w; rw [h] at this; exact this)
  have S2 := Lib.hid (show ∀ w, yes = false → Calls Try.prog 27 #[.agg (nvA a), .agg (nvA b), .bool false] w fun e w' => e = .returned (.tuple #[.agg (nvA a), .agg (nvA b)]) ∧ Below w.heap.size w w' from fun w h => by have := S.out w; rw [h] at this; exact this)
  clear S ha hb
  generalize nvA a = ra at *
  generalize nvA b = rb at *
  cases yes
  case false =>
    go_enter Try.func7, Try.ntmps7
    go_upto_region 1 with fail
    generalize (w.alloc (.cells ra 24 (0, 0))).alloc (.cells rb 24 (0, 0)) = W at R0 ⊢
    generalize w.heap.size + 1 = gb at *
    generalize hga : w.heap.size = ga at *
    clear hga
    have RA := Lib.hid (R0.out.row 0)
    have RB := Lib.hid (R0.out.row 1)
    go_wp2_with (first
      | (with_reducible refine wpList_load_row rfl 24 (.tmp 3) rfl ga rfl 24 ra (0, 0) _ RA.out Try.underlying24 rfl IA.out ?_)
      | (with_reducible refine wpList_load_row rfl 24 (.tmp 4) rfl gb rfl 24 rb (0, 0) _ RB.out Try.underlying24 rfl IB.out ?_))
    refine (S2.out _ trivial).mono ?_
    rintro e w5 ⟨rfl, hb5⟩
    have r1 := ((R0.out.on hb5).alloc #[.int .u64 0, .int .u64 0, .int .u64 0, .int .u64 0, .int .u64 0] 24).alloc #[.int .u64 0, .int .u64 0, .int .u64 0, .int .u64 0, .int .u64 0] 24
    rw [World.size_alloc] at r1
    have R1 := Lib.hid r1
    have R2 := Lib.hid (R1.out.store 2 ra)
    have R3 := Lib.hid (R2.out.store 3 rb)
    have RC := Lib.hid (R1.out.row 2)
    have RD := Lib.hid (R2.out.row 3)
    clear hb5 r1
    go_upto_region 2 with (first
      | (with_reducible refine wpList_store_row rfl 24 (.tmp 7) (.tmp 14) rfl w5.heap.size ra rfl rfl 24 #[.int .u64 0, .int .u64 0, .int .u64 0, .int .u64 0, .int .u64 0] RC.out IA.out LA.out OA.out ?_)
      | (with_reducible refine wpList_store_row rfl 24 (.tmp 8) (.tmp 15) rfl (w5.heap.size + 1) rb rfl rfl 24 #[.int .u64 0, .int .u64 0, .int .u64 0, .int .u64 0, .int .u64 0] RD.out IB.out LB.out OB.out ?_))
    simp only [Act.put]
    have R4 := Lib.hid (show Rw w [(ga, ra, 24), (gb, rb, 24), (w5.heap.size, ra, 24), (w5.heap.size + 1, rb, 24)] ((((w5.alloc (.cells #[.int .u64 0, .int .u64 0, .int .u64 0, .int .u64 0, .int .u64 0] 24 (0, 0))).alloc (.cells #[.int .u64 0, .int .u64 0, .int .u64 0, .int .u64 0, .int .u64 0] 24 (0, 0))).setRow w5.heap.size ra).setRow (w5.heap.size + 1) rb) from R3.out)
    generalize (((w5.alloc (.cells #[.int .u64 0, .int .u64 0, .int .u64 0, .int .u64 0, .int .u64 0] 24 (0, 0))).alloc (.cells #[.int .u64 0, .int .u64 0, .int .u64 0, .int .u64 0, .int .u64 0] 24 (0, 0))).setRow w5.heap.size ra).setRow (w5.heap.size + 1) rb = w6 at R4 ⊢
    generalize w5.heap.size + 1 = g8 at *
    generalize w5.heap.size = g7 at *
    have RX := Lib.hid (R4.out.row 0)
    have RY := Lib.hid (R4.out.row 1)
    have RU := Lib.hid (R4.out.row 2)
    have RV := Lib.hid (R4.out.row 3)
    clear RA RB RC RD R0 R1 R2 R3
    go_wp2_with (first
      | (with_reducible refine wpList_load_row rfl 24 (.tmp 7) rfl g7 rfl 24 ra (0, 0) _ RU.out Try.underlying24 rfl IA.out ?_)
      | (with_reducible refine wpList_load_row rfl 24 (.tmp 3) rfl ga rfl 24 ra (0, 0) _ RX.out Try.underlying24 rfl IA.out ?_)
      | (with_reducible refine wpList_load_row rfl 24 (.tmp 4) rfl gb rfl 24 rb (0, 0) _ RY.out Try.underlying24 rfl IB.out ?_)
      | (with_reducible refine wpList_load_row_g (by with_unfolding_all exact rfl) 24 (.tmp 8) rfl g8 rfl 24 rb (0, 0) _ RV.out Try.underlying24 rfl IB.out ?_)
      | (with_reducible refine wpList_load_row_g (by with_unfolding_all exact rfl) 24 (.tmp 3) rfl ga rfl 24 ra (0, 0) _ RX.out Try.underlying24 rfl IA.out ?_)
      | (with_reducible refine wpList_load_row_g (by with_unfolding_all exact rfl) 24 (.tmp 4) rfl gb rfl 24 rb (0, 0) _ RY.out Try.underlying24 rfl IB.out ?_))
    refine (A.out _).mono ?_
    rintro e w7 ⟨rfl, hb7⟩
    have hz := (R4.out.on hb7).bel
    clear hb7 R4 RX RY RU RV
    go_wp2_with fail
    go_ret
    exact ⟨rfl, hz⟩
  case true =>
    go_enter Try.func7, Try.ntmps7
    go_upto_region 1 with fail
    generalize (w.alloc (.cells ra 24 (0, 0))).alloc (.cells rb 24 (0, 0)) = W at R0 ⊢
    generalize w.heap.size + 1 = gb at *
    generalize hga : w.heap.size = ga at *
    clear hga
    have RA := Lib.hid (R0.out.row 0)
    have RB := Lib.hid (R0.out.row 1)
    go_wp2_with (first
      | (with_reducible refine wpList_load_row rfl 24 (.tmp 3) rfl ga rfl 24 ra (0, 0) _ RA.out Try.underlying24 rfl IA.out ?_)
      | (with_reducible refine wpList_load_row rfl 24 (.tmp 4) rfl gb rfl 24 rb (0, 0) _ RB.out Try.underlying24 rfl IB.out ?_))
    refine (S1.out _ trivial).mono ?_
    rintro e w5 ⟨rfl, hb5⟩
    have r1 := ((R0.out.on hb5).alloc #[.int .u64 0, .int .u64 0, .int .u64 0, .int .u64 0, .int .u64 0] 24).alloc #[.int .u64 0, .int .u64 0, .int .u64 0, .int .u64 0, .int .u64 0] 24
    rw [World.size_alloc] at r1
    have R1 := Lib.hid r1
    have R2 := Lib.hid (R1.out.store 2 rb)
    have R3 := Lib.hid (R2.out.store 3 ra)
    have RC := Lib.hid (R1.out.row 2)
    have RD := Lib.hid (R2.out.row 3)
    clear hb5 r1
    go_upto_region 2 with (first
      | (with_reducible refine wpList_store_row rfl 24 (.tmp 7) (.tmp 14) rfl w5.heap.size rb rfl rfl 24 #[.int .u64 0, .int .u64 0, .int .u64 0, .int .u64 0, .int .u64 0] RC.out IB.out LB.out OB.out ?_)
      | (with_reducible refine wpList_store_row rfl 24 (.tmp 8) (.tmp 15) rfl (w5.heap.size + 1) ra rfl rfl 24 #[.int .u64 0, .int .u64 0, .int .u64 0, .int .u64 0, .int .u64 0] RD.out IA.out LA.out OA.out ?_))
    simp only [Act.put]
    have R4 := Lib.hid (show Rw w [(ga, ra, 24), (gb, rb, 24), (w5.heap.size, rb, 24), (w5.heap.size + 1, ra, 24)] ((((w5.alloc (.cells #[.int .u64 0, .int .u64 0, .int .u64 0, .int .u64 0, .int .u64 0] 24 (0, 0))).alloc (.cells #[.int .u64 0, .int .u64 0, .int .u64 0, .int .u64 0, .int .u64 0] 24 (0, 0))).setRow w5.heap.size rb).setRow (w5.heap.size + 1) ra) from R3.out)
    generalize (((w5.alloc (.cells #[.int .u64 0, .int .u64 0, .int .u64 0, .int .u64 0, .int .u64 0] 24 (0, 0))).alloc (.cells #[.int .u64 0, .int .u64 0, .int .u64 0, .int .u64 0, .int .u64 0] 24 (0, 0))).setRow w5.heap.size rb).setRow (w5.heap.size + 1) ra = w6 at R4 ⊢
    generalize w5.heap.size + 1 = g8 at *
    generalize w5.heap.size = g7 at *
    have RX := Lib.hid (R4.out.row 0)
    have RY := Lib.hid (R4.out.row 1)
    have RU := Lib.hid (R4.out.row 2)
    have RV := Lib.hid (R4.out.row 3)
    clear RA RB RC RD R0 R1 R2 R3
    go_wp2_with (first
      | (with_reducible refine wpList_load_row rfl 24 (.tmp 7) rfl g7 rfl 24 rb (0, 0) _ RU.out Try.underlying24 rfl IB.out ?_)
      | (with_reducible refine wpList_load_row rfl 24 (.tmp 3) rfl ga rfl 24 ra (0, 0) _ RX.out Try.underlying24 rfl IA.out ?_)
      | (with_reducible refine wpList_load_row rfl 24 (.tmp 4) rfl gb rfl 24 rb (0, 0) _ RY.out Try.underlying24 rfl IB.out ?_)
      | (with_reducible refine wpList_load_row_g (by with_unfolding_all exact rfl) 24 (.tmp 8) rfl g8 rfl 24 ra (0, 0) _ RV.out Try.underlying24 rfl IA.out ?_)
      | (with_reducible refine wpList_load_row_g (by with_unfolding_all exact rfl) 24 (.tmp 3) rfl ga rfl 24 ra (0, 0) _ RX.out Try.underlying24 rfl IA.out ?_)
      | (with_reducible refine wpList_load_row_g (by with_unfolding_all exact rfl) 24 (.tmp 4) rfl gb rfl 24 rb (0, 0) _ RY.out Try.underlying24 rfl IB.out ?_))
    refine (A.out _).mono ?_
    rintro e w7 ⟨rfl, hb7⟩
    have hz := (R4.out.on hb7).bel
    clear hb7 R4 RX RY RU RV
    go_wp2_with fail
    go_ret
    exact ⟨rfl, hz⟩
end Go.Proofs.Ythlmphloalbhnaa
