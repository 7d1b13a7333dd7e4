/-
  mailsacklaw03.FeParts: the walk.
-/
import Derived.Test.YthlmphloalbhnaaFeY
namespace Go.Proofs.Ythlmphloalbhnaa
open Go.RowKit MS

def vF (f : Nat → Nat) : Nat := f 0 + 2251799813685248 * f 1 + 5070602400912917605986812821504 * f 2 + 11417981541647679048466287755595961091061972992 * f 3 + 25711008708143844408671393477458601640355247900524685364822016 * f 4
/-- One carry by hand. -/
def hc (f : Nat → Nat) (i : Nat) : Nat → Nat := upd (upd f (i + 1) (f (i + 1) + f i / 2251799813685248)) i (f i % 2251799813685248)
theorem hc_v (f : Nat → Nat) (i : Nat) (hi : i < 4) : vF (hc f i) = vF f := by
  have : i = 0 ∨ i = 1 ∨ i = 2 ∨ i = 3 := by omega
  rcases this with rfl | rfl | rfl | rfl <;> simp [vF, hc, upd] <;> omega
theorem hc_lt (f : Nat → Nat) (i : Nat) (h : ∀ k, k < 5 → f k < 18446744073709551616) (hi : i < 4) (hs : f (i + 1) ≤ 9223372036854775808) : ∀ k, k < 5 → hc f i k < 18446744073709551616 := by
  intro k hk
  have h1 := h i (by omega)
  have h2 := h k hk
  unfold hc upd
  split
  · omega
  · split
    · omega
    · exact h2
theorem sub10 (i : Nat) : i + 1 - 1 = i := rfl
set_option maxRecDepth 100000 in
set_option maxHeartbeats 2000000 in
theorem feparts_any (a : N5) (ha : a.ok) (b : N5) (hb : b.ok) (yes : Bool) (w : World) :
    Calls Try.prog 8 #[.agg (nvA a), .agg (nvA b), .bool yes] w fun e w' => e = .returned (.bool true) ∧ Below w.heap.size w w' := by
  have A := Lib.hid (fun w => awake03_any w)
  have S1 := Lib.hid (fun w => swap_any a b yes ha hb w)
  have S2 := Lib.hid (show ∀ w, Calls Try.prog 27 #[.agg (nvA (swA a b yes)), .agg (nvA (swA b a yes)), .bool yes] w fun e w' => e = .returned (.tuple #[.agg (nvA a), .agg (nvA b)]) ∧ Below w.heap.size w w' from fun w => by
    cases yes
    · exact swap_any a b false ha hb w
    · exact swap_any b a true hb ha w)
  have B1 := Lib.hid (fun w => febytes_any a ha w)
  have B2 := Lib.hid (show ∀ G : Nat → Nat, (∀ k, k < 5 → G k < 18446744073709551616) → vF G = a.v → ∀ w, Calls Try.prog 16 #[.agg (rowF G)] w fun e w' => e = .returned (.string (feB a)) ∧ Below w.heap.size w w' from fun G hG hv w => by
    have := febytes_any ⟨G 0, G 1, G 2, G 3, G 4⟩ ⟨hG 0 (by decide), hG 1 (by decide), hG 2 (by decide), hG 3 (by decide), hG 4 (by decide)⟩ w
    rwa [feB_em (show em ⟨G 0, G 1, G 2, G 3, G 4⟩ a from congrArg (· % Q') hv)] at this)
  have hE : (feB a).size = 32 := size_feB a
  generalize feB a = E at *
  have V0 := Lib.hid (show vF (getN a) = a.v from rfl)
  have L0 := Lib.hid (show ∀ k, k < 5 → getN a k < 18446744073709551616 from fun k _ => ok_get ha k)
  have IA := Lib.hid (infoV a)
  have IB := Lib.hid (infoV b)
  have OA := Lib.hid (one_nvA a)
  have OB := Lib.hid (one_nvA b)
  have IP := Lib.hid (infoV (swA a b yes))
  have IQ := Lib.hid (infoV (swA b a yes))
  have OP := Lib.hid (one_nvA (swA a b yes))
  have OQ := Lib.hid (one_nvA (swA b a yes))
  have LA := Lib.hid (show (nvA (swA a b yes)).size = (nvA a).size from rfl)
  have LB := Lib.hid (show (nvA (swA b a yes)).size = (nvA b).size from rfl)
  have LP := Lib.hid (show (#[.int .u64 0, .int .u64 0, .int .u64 0, .int .u64 0, .int .u64 0] : Array Value).size = (nvA (swA a b yes)).size from rfl)
  have LQ := Lib.hid (show (#[.int .u64 0, .int .u64 0, .int .u64 0, .int .u64 0, .int .u64 0] : Array Value).size = (nvA (swA b a yes)).size from rfl)
  have LZ := Lib.hid (show (#[.int .u64 0, .int .u64 0, .int .u64 0, .int .u64 0, .int .u64 0] : Array Value).size = (nvA a).size from rfl)
  have QA := fun w => run_eql_num a w
  have QB := fun w => run_eql_num b w
  have R0 := Lib.hid (show Rw w [(w.heap.size, nvA a, 24), (w.heap.size + 1, nvA b, 24)] ((w.alloc (.cells (nvA a) 24 (0, 0))).alloc (.cells (nvA b) 24 (0, 0))) from rw2 w (nvA a) (nvA b))
  have HX := Lib.hid (show nvA a = rowF (getN a) from rfl)
  generalize getN a = FA at *
  generalize a.v = V at *
  generalize nvA (swA a b yes) = rp at *
  generalize nvA (swA b a yes) = rq at *
  generalize nvA a = ra at *
  generalize nvA b = rb at *
  clear ha hb
  go_enter Try.func8, Try.ntmps8
  go_upto_region 1 with fail
  generalize (w.alloc (.cells ra 24 (0, 0))).alloc (.cells rb 24 (0, 0)) = W at R0 ⊢
  generalize w.heap.size + 1 = gb at *
  generalize hga : w.heap.size = ga at *
  have RA := Lib.hid (R0.out.row 0)
  have r1 := R0.out.alloc #[.int .u64 0, .int .u64 0, .int .u64 0, .int .u64 0, .int .u64 0] 24
  have R1 := Lib.hid (r1.store 2 ra)
  have RZ := Lib.hid (r1.row 2)
  clear r1
  go_upto_region 2 with (first
      | (with_reducible refine wpList_load_row rfl 24 (.tmp 3) rfl ga rfl 24 ra (0, 0) _ RA.out Try.underlying24 rfl IA.out ?_)
      | (with_reducible refine wpList_store_row rfl 24 (.tmp 7) (.tmp 11) rfl W.heap.size ra rfl rfl 24 #[.int .u64 0, .int .u64 0, .int .u64 0, .int .u64 0, .int .u64 0] RZ.out IA.out LZ.out OA.out ?_))
  simp only [Act.put]
  have R2 := Lib.hid (show Rw w [(ga, ra, 24), (gb, rb, 24), (W.heap.size, rowF FA, 24)] ((W.alloc (.cells #[.int .u64 0, .int .u64 0, .int .u64 0, .int .u64 0, .int .u64 0] 24 (0, 0))).setRow W.heap.size ra) from by rw [← HX.out]; exact R1.out)
  generalize (W.alloc (.cells #[.int .u64 0, .int .u64 0, .int .u64 0, .int .u64 0, .int .u64 0] 24 (0, 0))).setRow W.heap.size ra = w2 at R2 ⊢
  generalize W.heap.size = gc at *
  clear RA RZ R1 R0 HX hga
  go_upto_region 3 with fail
  go_loopw [12] (fun c wr => ∃ i : Nat, ∃ G : Nat → Nat, i ≤ 4 ∧ c = .int .i64 i ∧ (∀ k, k < 5 → G k < 18446744073709551616) ∧ vF G = V ∧ Rw w [(ga, ra, 24), (gb, rb, 24), (gc, rowF G, 24)] wr) (fun c _ => 4 - (intOf c).toNat)
  case atStart => exact ⟨0, FA, by omega, rfl, L0.out, V0.out, R2.out⟩
  case round =>
    obtain ⟨i, G, hi, rfl, hG, hV, hr⟩ := hrel
    have R3 := Lib.hid hr
    have HG := Lib.hid hG
    have HV := Lib.hid hV
    clear hr hG hV R2 V0 L0
    by_cases hlt : i < 4
    · have i1 : (i : Int) < 4 := by omega
      have i0 : (0 : Int) ≤ i := by omega
      have c0 := R3.out.cell 2 i (rowF_get _ _ (by omega))
      have c1 := R3.out.cell 2 (i + 1) (rowF_get _ _ (by omega))
      have f0 := R3.out.free 2 i
      have f1 := R3.out.free 2 (i + 1)
      have b0 := HG.out i (by omega)
      have b1 := HG.out (i + 1) (by omega)
      have put := R3.out.put 2 (i + 1) (.int .u64 ((G (i + 1) + G i / 2251799813685248 : Nat) : Int))
      rw [rowF_set _ _ _ (by omega)] at put
      have P1 := Lib.hid put.drew
      have rd : upd G (i + 1) (G (i + 1) + G i / 2251799813685248) i = G i := if_neg (by omega)
      clear put
      have HI := Lib.hid hlt
      have hv2 := Lib.hid ((hc_v G i hlt).trans HV.out)
      have and0 := and51 (G i) b0
      have shr0 := shr51 (G i)
      have sb : G i / 2251799813685248 < 8192 := by omega
      by_cases hgt : G (i + 1) > 9223372036854775808
      case' pos =>
        have g1 : ((G (i + 1) : Nat) : Int) > 9223372036854775808 := by omega
        generalize G i = p at *
        generalize G (i + 1) = q at *
        go_wp2_with fail
        refine (A.out _).mono ?_
        rintro e w7 ⟨rfl, hb7⟩
        have hz := (R3.out.on hb7).bel
        go_wp2_with fail
        go_ret
        exact ⟨rfl, hz⟩
      case' neg =>
        have g1 : ¬ ((G (i + 1) : Nat) : Int) > 9223372036854775808 := by omega
        have hl2 := Lib.hid (hc_lt G i HG.out hlt (by omega))
        have HH := Lib.hid (show ∀ w9 : World, Rw w [(ga, ra, 24), (gb, rb, 24), (gc, rowF (upd G (i + 1) (G (i + 1) + G i / 2251799813685248)), 24)] w9 → w9.cell? ⟨gc, i, none⟩ = some (.int .u64 ((G i : Nat) : Int)) ∧ w9.frozen? ⟨gc, i, none⟩ = false ∧ Rw w [(ga, ra, 24), (gb, rb, 24), (gc, rowF (hc G i), 24)] (w9.setCell ⟨gc, i, none⟩ (.int .u64 ((G i % 2251799813685248 : Nat) : Int))) from fun w9 h9 => by
          have d := h9.cell 2 i (rowF_get _ _ (by omega))
          rw [rd] at d
          have put2 := h9.put 2 i (.int .u64 ((G i % 2251799813685248 : Nat) : Int))
          rw [rowF_set _ _ _ (by omega)] at put2
          exact ⟨d, h9.free 2 i, put2⟩)
        clear rd
        generalize G i = p at *
        generalize G (i + 1) = q at *
        have q1 : (q : Int) ≤ 9223372036854775808 := by omega
        have p1 : (p : Int) / 2251799813685248 < 8192 := by omega
        rw [Int.natCast_add] at P1
        have w1 : IntKind.i64.wrap ((i : Int) + 1) = (i : Int) + 1 := by rw [IntKind.wrap_i64]; omega
        have w2 : IntKind.u64.wrap ((q : Int) + ((p / 2251799813685248 : Nat) : Int)) = (q : Int) + ((p / 2251799813685248 : Nat) : Int) := by rw [IntKind.wrap_u64]; omega
        have i2 : (i : Int) + 1 < 5 := by omega
        have i3 : (0 : Int) ≤ (i : Int) + 1 := by omega
        have i4 : ((i : Int) + 1).toNat = i + 1 := by omega
        have i5 : (i : Int) < 5 := by omega
        generalize p / 2251799813685248 = p2 at *
        generalize p % 2251799813685248 = p3 at *
        generalize hfn : upd G (i + 1) (q + p2) = G1 at *
        clear hfn hgt
        go_upto_region 7 with fail
        go_still_tail 10, (by kernel_rfl)
        go_upto_region 8 with fail
        obtain ⟨d0, e0, P2⟩ := HH.out _ P1.out
        have R9 := Lib.hid P2
        clear P2 HH
        generalize (wr.setCell ⟨gc, i + 1, none⟩ (.int .u64 ((q : Int) + (p2 : Int)))).drew = w9 at *
        go_wp2_with fail
        go_roundw
        case rel => exact ⟨i + 1, hc G i, by omega, by go_num, hl2.out, hv2.out, R9.out⟩
        case measure => simp [intOf]; omega
    · have i1 : ¬ (i : Int) < 4 := by omega
      clear hlt hi
      have BG := Lib.hid (B2.out G HG.out HV.out)
      have IG := Lib.hid (infoN G)
      generalize rowF G = rg at *
      clear B2 HG HV
      have RA := Lib.hid (R3.out.row 0)
      have RB := Lib.hid (R3.out.row 1)
      go_wp2_with (first
        | (with_reducible refine wpList_load_row rfl 24 (.tmp 3) rfl ga rfl 24 ra (0, 0) _ RA.out Try.underlying24 rfl IA.out ?_)
        | (with_reducible refine wpList_load_row rfl 24 (.tmp 4) rfl gb rfl 24 rb (0, 0) _ RB.out Try.underlying24 rfl IB.out ?_))
      refine (S1.out _).mono ?_
      rintro e w5 ⟨rfl, hb5⟩
      have r1 := ((R3.out.on hb5).alloc #[.int .u64 0, .int .u64 0, .int .u64 0, .int .u64 0, .int .u64 0] 24).alloc #[.int .u64 0, .int .u64 0, .int .u64 0, .int .u64 0, .int .u64 0] 24
      rw [World.size_alloc] at r1
      have R4 := Lib.hid r1
      have R5 := Lib.hid (R4.out.store 3 rp)
      have R6 := Lib.hid (R5.out.store 4 rq)
      have RC := Lib.hid (R4.out.row 3)
      have RD := Lib.hid (R5.out.row 4)
      clear hb5 r1 RA RB
      go_upto_region 11 with (first
        | (with_reducible refine wpList_store_row rfl 24 (.tmp 9) (.tmp 42) rfl w5.heap.size rp rfl rfl 24 #[.int .u64 0, .int .u64 0, .int .u64 0, .int .u64 0, .int .u64 0] RC.out IP.out LP.out OP.out ?_)
        | (with_reducible refine wpList_store_row rfl 24 (.tmp 10) (.tmp 43) rfl (w5.heap.size + 1) rq rfl rfl 24 #[.int .u64 0, .int .u64 0, .int .u64 0, .int .u64 0, .int .u64 0] RD.out IQ.out LQ.out OQ.out ?_))
      simp only [Act.put]
      have R7 := Lib.hid (show Rw w [(ga, ra, 24), (gb, rb, 24), (gc, rg, 24), (w5.heap.size, rp, 24), (w5.heap.size + 1, rq, 24)] ((((w5.alloc (.cells #[.int .u64 0, .int .u64 0, .int .u64 0, .int .u64 0, .int .u64 0] 24 (0, 0))).alloc (.cells #[.int .u64 0, .int .u64 0, .int .u64 0, .int .u64 0, .int .u64 0] 24 (0, 0))).setRow w5.heap.size rp).setRow (w5.heap.size + 1) rq) from R6.out)
      generalize (((w5.alloc (.cells #[.int .u64 0, .int .u64 0, .int .u64 0, .int .u64 0, .int .u64 0] 24 (0, 0))).alloc (.cells #[.int .u64 0, .int .u64 0, .int .u64 0, .int .u64 0, .int .u64 0] 24 (0, 0))).setRow w5.heap.size rp).setRow (w5.heap.size + 1) rq = w6 at R7 ⊢
      generalize w5.heap.size + 1 = g10 at *
      generalize w5.heap.size = g9 at *
      clear R4 R5 R6 RC RD R3
      have RU := Lib.hid (R7.out.row 3)
      have RV := Lib.hid (R7.out.row 4)
      go_wp2_with (first
        | (with_reducible refine wpList_load_row rfl 24 (.tmp 9) rfl g9 rfl 24 rp (0, 0) _ RU.out Try.underlying24 rfl IP.out ?_)
        | (with_reducible refine wpList_load_row rfl 24 (.tmp 10) rfl g10 rfl 24 rq (0, 0) _ RV.out Try.underlying24 rfl IQ.out ?_))
      refine (S2.out _).mono ?_
      rintro e w7 ⟨rfl, hb7⟩
      have R8 := Lib.hid (R7.out.on hb7)
      clear hb7 RU RV R7
      have RU := Lib.hid (R8.out.row 3)
      have R9 := Lib.hid (R8.out.store 3 ra)
      have RV := Lib.hid (R9.out.row 4)
      have RR := Lib.hid (R9.out.store 4 rb)
      go_upto_region 12 with (first
        | (with_reducible refine wpList_store_row rfl 24 (.tmp 9) (.tmp 49) rfl g9 ra rfl rfl 24 rp RU.out IA.out LA.out OA.out ?_)
        | (with_reducible refine wpList_store_row rfl 24 (.tmp 10) (.tmp 50) rfl g10 rb rfl rfl 24 rq RV.out IB.out LB.out OB.out ?_))
      simp only [Act.put]
      have RR := Lib.hid (show Rw w [(ga, ra, 24), (gb, rb, 24), (gc, rg, 24), (g9, ra, 24), (g10, rb, 24)] ((w7.setRow g9 ra).setRow g10 rb) from RR.out)
      generalize (w7.setRow g9 ra).setRow g10 rb = w8 at RR ⊢
      clear R8 R9 RU RV S1 S2 OA OB OP OQ LA LB LP LQ LZ IP IQ
      have z1 : ((E.size : Int) == 32) = true := by simp; omega
      refine wp_region_below (by kernel_rfl) (by kernel_rfl) ?_
      go_big_quiet_want
      refine quiet_load_row 24 (.tmp 3) (by rfl) ga (by rfl) 24 ra (0, 0) _ ?hC Try.underlying24 rfl IA.out ?_
      case hC => rintro w' ⟨p, rfl⟩; exact (RR.out.on p.2).row 0
      simp only [Act.put, List.setIfInBounds_toArray, List.set_cons_zero, List.set_cons_succ]
      go_big_quiet_on
      go_big_quiet_step (exact calls_below (B1.out _))
      go_big_quiet_want
      refine quiet_load_row 24 (.tmp 7) (by rfl) gc (by rfl) 24 rg (0, 0) _ ?hC Try.underlying24 rfl IG.out ?_
      case hC => rintro w' ⟨p, rfl⟩; exact (RR.out.on p.2).row 2
      simp only [Act.put, List.setIfInBounds_toArray, List.set_cons_zero, List.set_cons_succ]
      go_big_quiet_on
      go_big_quiet_step (exact calls_below (BG.out _))
      go_big_quiet_step (fail)
      go_big_quiet_step (fail)
      go_big_quiet_want
      refine quiet_load_row 24 (.tmp 3) (by rfl) ga (by rfl) 24 ra (0, 0) _ ?hC Try.underlying24 rfl IA.out ?_
      case hC => rintro w' ⟨p, rfl⟩; exact (RR.out.on p.2).row 0
      simp only [Act.put, List.setIfInBounds_toArray, List.set_cons_zero, List.set_cons_succ]
      go_big_quiet_on
      go_big_quiet_step (exact calls_below (B1.out _))
      go_big_quiet_step (fail)
      go_big_quiet_step (fail)
      go_big_quiet_step (fail)
      go_big_quiet_step (fail)
      go_big_quiet_want
      refine quiet_load_row 24 (.tmp 9) (by rfl) g9 (by rfl) 24 ra (0, 0) _ ?hC Try.underlying24 rfl IA.out ?_
      case hC => rintro w' ⟨p, rfl⟩; exact (RR.out.on p.2).row 3
      simp only [Act.put, List.setIfInBounds_toArray, List.set_cons_zero, List.set_cons_succ]
      go_big_quiet_on
      go_big_quiet_want
      refine quiet_load_row 24 (.tmp 3) (by rfl) ga (by rfl) 24 ra (0, 0) _ ?hC Try.underlying24 rfl IA.out ?_
      case hC => rintro w' ⟨p, rfl⟩; exact (RR.out.on p.2).row 0
      simp only [Act.put, List.setIfInBounds_toArray, List.set_cons_zero, List.set_cons_succ]
      go_big_quiet_on
      go_big_quiet_step (fail)
      go_big_quiet_step (fail)
      go_big_quiet_step (fail)
      go_big_quiet_want
      refine quiet_load_row 24 (.tmp 10) (by rfl) g10 (by rfl) 24 rb (0, 0) _ ?hC Try.underlying24 rfl IB.out ?_
      case hC => rintro w' ⟨p, rfl⟩; exact (RR.out.on p.2).row 4
      simp only [Act.put, List.setIfInBounds_toArray, List.set_cons_zero, List.set_cons_succ]
      go_big_quiet_on
      go_big_quiet_want
      refine quiet_load_row 24 (.tmp 4) (by rfl) gb (by rfl) 24 rb (0, 0) _ ?hC Try.underlying24 rfl IB.out ?_
      case hC => rintro w' ⟨p, rfl⟩; exact (RR.out.on p.2).row 1
      simp only [Act.put, List.setIfInBounds_toArray, List.set_cons_zero, List.set_cons_succ]
      go_big_quiet_on
      go_big_quiet_step (fail)
      go_big_quiet_step (fail)
      go_big_quiet_step (fail)
      go_big_quiet_step (exact calls_below (A.out _))
      go_big_quiet_step (fail)
      go_big_quiet_step (fail)
      refine wpQuiet_nil ?_
      rintro _ ⟨p, rfl⟩
      have RR := Lib.hid (RR.out.on p.2)
      generalize p.1 = wq at RR ⊢
      go_wp2_with fail
      go_ret
      exact ⟨rfl, RR.out.bel⟩
end Go.Proofs.Ythlmphloalbhnaa
