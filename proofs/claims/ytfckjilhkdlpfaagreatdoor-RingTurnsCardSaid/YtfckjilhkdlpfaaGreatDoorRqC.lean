/-
  mailsackref13.Make, mailsackref13.Unlock: the walks.
-/
import Derived.Test.YtfckjilhkdlpfaaGreatDoorRqB
namespace Go.Proofs.YtfckjilhkdlpfaaGreatDoor
open Go.RowKit MS

set_option maxRecDepth 1000000 in
set_option maxHeartbeats 4000000 in
theorem rmake_core (user pw : ByteArray) (f : Fre) (w : World) (q : Acc) (b : Bool)
    (RW : ∀ w, Calls Tryz.prog 31 #[(⟨user, bs [], 0, 0, bs [], bs [], bs [], bs []⟩ : Acc).v, .string pw, f.v] w fun e w' => e = .returned (.tuple #[q.v, .bool b]) ∧ Below w.heap.size w w') :
    Calls Tryz.prog 17 #[.string user, .string pw, f.v] w fun e w' => e = .returned (.tuple #[q.v, .bool b]) ∧ Below w.heap.size w w' := by
  obtain ⟨z0, z1, z2, z3, z4, z5, z6, z7⟩ := q
  obtain ⟨fs, fn, fp, fr⟩ := f
  unfold Fre.v Acc.v bs at *
  simp only at *
  have RW := Lib.hid RW
  have R0 := Lib.hid (rwFA w fs fn fp fr 36 32)
  have IA := Lib.hid (infoRA z0 z1 z2 z3 z4 z5 z6 z7)
  go_enter Tryz.func17, Tryz.ntmps17
  go_upto_region 1 with fail
  generalize (w.alloc (.cells #[.string fs, .string fn, .string fp, .int .i64 fr] 36 (0, 0))).alloc _ = W at R0 ⊢
  generalize hga : w.heap.size = ga at *
  obtain ⟨c0, c1, c2, c3⟩ := fre_cells R0.out 0 rfl
  go_wp2_with fail
  refine (RW.out _).mono ?_
  rintro e w2 ⟨rfl, hb⟩
  have R1 := Lib.hid (R0.out.on hb)
  have R2 := Lib.hid (R1.out.store 1 (accA z0 z1 z2 z3 z4 z5 z6 z7))
  have RB := Lib.hid (R1.out.row 1)
  clear hb R0 c0 c1 c2 c3 RW
  go_wp2_with (with_reducible refine wpList_store_row rfl 32 (.tmp 6) (.tmp 13) rfl (ga + 1) (accA z0 z1 z2 z3 z4 z5 z6 z7) rfl rfl 32 (accA ⟨#[]⟩ ⟨#[]⟩ 0 0 ⟨#[]⟩ ⟨#[]⟩ ⟨#[]⟩ ⟨#[]⟩) RB.out IA.out rfl (one_accA _ _ _ _ _ _ _ _) ?_)
  exact bodyPost_ret (results_row_slot rfl _ _ (ga + 1) 32 (accA z0 z1 z2 z3 z4 z5 z6 z7) (0, 0) _ (.bool b) rfl rfl (R2.out.row 1) Tryz.underlying32 rfl IA.out) rfl ⟨rfl, hga ▸ R2.out.bel⟩
theorem rmake_any (user pw : ByteArray) (f : Fre) (w : World) (hus : user.size ≤ 1000) (hp : pw.size ≤ 1000) :
    Calls Tryz.prog 17 #[.string user, .string pw, f.v] w fun e w' => e = .returned (.tuple #[(mkB user pw f).1.v, .bool (decide ((mkB user pw f).2 = 0))]) ∧ Below w.heap.size w w' := by
  unfold mkB
  by_cases h : usrB user = true ∧ f.ok = true
  · rw [if_pos h]
    exact rmake_core user pw f w _ _ (fun w => rwrap_yes ⟨user, bs [], 0, 0, bs [], bs [], bs [], bs []⟩ pw f w hp h.1 h.2)
  · rw [if_neg h]
    exact rmake_core user pw f w _ _ (fun w => rwrap_no ⟨user, bs [], 0, 0, bs [], bs [], bs [], bs []⟩ pw f w hus h)

set_option maxRecDepth 1000000 in
set_option maxHeartbeats 4000000 in
theorem runlock_no (a : Acc) (pw : ByteArray) (w : World) (h : a.ok = false) (hus : a.user.size ≤ 1000) :
    Calls Tryz.prog 19 #[a.v, .string pw] w fun e w' => e = .returned (.tuple #[.slice none 0 0, .int .i64 1]) ∧ Below w.heap.size w w' := by
  have hr := refRight_any a hus
  rw [h] at hr
  obtain ⟨user, salt, rounds, epoch, pub, nonce, wrapped, old⟩ := a
  unfold Acc.v at *
  simp only at *
  have HR := Lib.hid hr
  clear hr h hus
  go_enter Tryz.func19, Tryz.ntmps19
  go_wp2_with fail
  refine (HR.out _).mono ?_
  rintro e w1 ⟨rfl, hb⟩
  go_wp2_with fail
  go_ret2
  exact ⟨rfl, below_chain (below_alloc (Below.refl _ _) _) hb⟩

set_option maxRecDepth 1000000 in
set_option maxHeartbeats 4000000 in
theorem runlock_yes (a : Acc) (pw : ByteArray) (w : World) (hp : pw.size ≤ 1000) (hok : a.ok = true) :
    Calls Tryz.prog 19 #[a.v, .string pw] w fun e w' => UnlQ (unlB a pw) w e w' ∧ Below w.heap.size w w' := by
  have hf := Acc.fits_of hok
  have hr := refRight_any a (by have := hf.u8; omega)
  have hu : unlB a pw = match privU a pw with
    | none => .err 10
    | some k => if xB k baseB = a.pub then (if a.old.size = 0 then .one k else match oldU a k with | none => .err 3 | some o => .two k o) else .err 10 := by rw [unlB, if_pos hok]; rfl
  rw [hok] at hr
  obtain ⟨user, salt, rounds, epoch, pub, nonce, wrapped, old⟩ := a
  obtain ⟨-, h2, h3, h4, h5, h6, h7, h8, h9, h10⟩ := hf
  unfold Acc.v at *
  unfold privU oldU at hu
  simp only at *
  obtain ⟨r, rfl⟩ : ∃ r : Nat, rounds = r := ⟨rounds.toNat, by omega⟩
  rw [Int.toNat_natCast] at hu
  have P := Lib.hid (fun w => rpw_any pw salt r w (by omega) (by omega) hp (by omega))
  have hkz := size_pwB pw salt r
  generalize pwB pw salt r = key at *
  have hup : (user ++ pub).size ≤ 10000 := by rw [ByteArray.size_append]; omega
  have O := Lib.hid (fun w => ropenA_any key nonce (user ++ pub) wrapped w hkz h8 hup (by omega))
  have HZ := Lib.hid (show ∀ k, openA key nonce (user ++ pub) wrapped = some k → k.size = 32 from fun k h => by have := size_openA h; omega)
  generalize openA key nonce (user ++ pub) wrapped = R at *
  have HR := Lib.hid hr
  have HU := Lib.hid hu
  have R0 := Lib.hid (rwAcc w user salt r epoch pub nonce wrapped old 32)
  have HP := Lib.hid h7
  have HN := Lib.hid h8
  have HO := Lib.hid h10
  have u8 : (user.size : Int) ≤ 8 := by omega
  have p32 : (pub.size : Int) = 32 := by omega
  clear hr hu hp hkz hup hok h2 h3 h4 h5 h6 h7 h8 h9 h10
  go_enter Tryz.func19, Tryz.ntmps19
  go_wp2_with fail
  refine (HR.out _).mono ?_
  rintro e w1 ⟨rfl, hb⟩
  have R1 := Lib.hid (R0.out.on hb)
  obtain ⟨c0, c1, c2, c3, c4, c5, c6, c7⟩ := acc_cells R1.out
  clear hb R0 HR
  generalize hga : w.heap.size = ga at *
  go_wp2_with fail
  refine (P.out _).mono ?_
  rintro e w2 ⟨rfl, hb⟩
  have R2 := Lib.hid (R1.out.on hb)
  clear c0 c1 c2 c3 c4 c5 c6 c7
  obtain ⟨c0, c1, c2, c3, c4, c5, c6, c7⟩ := acc_cells R2.out
  clear hb R1 P
  go_wp2_with fail
  refine (O.out _).mono ?_
  rintro e w3 ⟨rfl, hb⟩
  have R3 := Lib.hid (R2.out.on hb)
  clear c0 c1 c2 c3 c4 c5 c6 c7
  clear hb R2 O
  cases R with
  | none =>
    simp only [ropenV]
    have h := HU.out
    simp only at h
    have HQ := Lib.hid h
    clear h HU
    go_upto_region 5 with fail
    refine wp_region_below (by kernel_rfl) (by kernel_rfl) ?_
    repeat (go_big_quiet_step (fail))
    refine wpQuiet_nil ?_
    rintro _ ⟨p, rfl⟩
    have R4 := Lib.hid (R3.out.on p.2)
    generalize p.1 = w4 at R4 ⊢
    go_wp2_with fail
    go_ret2
    exact ⟨by rw [HQ.out]; rfl, hga ▸ R4.out.bel⟩
  | some k =>
    simp only [ropenV]
    have h := HU.out
    simp only at h
    have hk := HZ.out k rfl
    have U := Lib.hid (fun w => rpublic_any k w hk)
    have UN := Lib.hid (fun w => runder_any k w (by omega))
    have O2 := Lib.hid (fun w => ropenA_any (undB k) nonce pub old w (size_undB k) HN.out (by have := HP.out; omega) (by have := HO.out; omega))
    generalize openA (undB k) nonce pub old = R2 at *
    generalize undB k = key2 at *
    have RG := Lib.hid (fun p : BW w3 => R3.out.on p.2)
    have e4 := fun p : BW w3 => (acc_cells (RG.out p)).2.2.2.2.1
    by_cases hxp : xB k baseB = pub
    · rw [if_pos hxp] at h
      rw [hxp] at U
      have HH := Lib.hid h
      clear h HU hxp
      go_upto_region 5 with fail
      refine wp_region_below (by kernel_rfl) (by kernel_rfl) ?_
      repeat (go_big_quiet_step (exact calls_below (U.out _)))
      refine wpQuiet_nil ?_
      rintro _ ⟨p, rfl⟩
      have R4 := Lib.hid (RG.out p)
      generalize p.1 = w4 at R4 ⊢
      clear R3 RG e4
      obtain ⟨c0, c1, c2, c3, c4, c5, c6, c7⟩ := acc_cells R4.out
      by_cases ho : old.size = 0
      · have h := HH.out
        rw [if_pos ho] at h
        have HQ := Lib.hid h
        have oz : ((old.size : Int) == 0) = true := beq_iff_eq.2 (by omega)
        have oy : (old.size : Int) = 0 := by omega
        clear h HH ho hk
        go_wp2_with fail
        go_ret2
        refine ⟨?_, hga ▸ R4.out.bel.alloc R4.out.bel.size _⟩
        rw [HQ.out]
        exact ⟨w4.heap.size, R4.out.bel.size, rfl, (MapKept.heap_alloc _ _).1⟩
      · have h := HH.out
        rw [if_neg ho] at h
        have HQ := Lib.hid h
        have oz : ((old.size : Int) == 0) = false := beq_eq_false_iff_ne.2 (by omega)
        have oy : ¬ (old.size : Int) = 0 := by omega
        clear h HH ho hk
        go_upto_region 9 with fail
        clear c0 c1 c2 c3 c4 c5 c6 c7
        have RG := Lib.hid (fun p : BW w4 => R4.out.on p.2)
        have e4 := fun p : BW w4 => (acc_cells (RG.out p)).2.2.2.2.1
        have e5 := fun p : BW w4 => (acc_cells (RG.out p)).2.2.2.2.2.1
        have e7 := fun p : BW w4 => (acc_cells (RG.out p)).2.2.2.2.2.2.2
        cases R2 with
        | none =>
          simp only [ropenV] at O2
          refine wp_region_below (by kernel_rfl) (by kernel_rfl) ?_
          repeat (go_big_quiet_step (first | exact calls_below (UN.out _) | exact calls_below (O2.out _)))
          refine wpQuiet_nil ?_
          rintro _ ⟨p, rfl⟩
          have R5 := Lib.hid (RG.out p)
          generalize p.1 = w5 at R5 ⊢
          clear R4 RG e4 e5 e7
          have h := HQ.out
          simp only at h
          have HQ := Lib.hid h
          clear h
          go_wp2_with fail
          go_ret2
          exact ⟨by rw [HQ.out]; rfl, hga ▸ R5.out.bel⟩
        | some o =>
          simp only [ropenV] at O2
          refine wp_region_below (by kernel_rfl) (by kernel_rfl) ?_
          repeat (go_big_quiet_step (first | exact calls_below (UN.out _) | exact calls_below (O2.out _)))
          refine wpQuiet_nil ?_
          rintro _ ⟨p, rfl⟩
          have R5 := Lib.hid (RG.out p)
          generalize p.1 = w5 at R5 ⊢
          clear R4 RG e4 e5 e7
          have h := HQ.out
          simp only at h
          have HQ := Lib.hid h
          clear h
          go_wp2_with fail
          go_ret2
          refine ⟨?_, hga ▸ R5.out.bel.alloc R5.out.bel.size _⟩
          rw [HQ.out]
          exact ⟨w5.heap.size, R5.out.bel.size, rfl, (MapKept.heap_alloc _ _).1⟩
    · rw [if_neg hxp] at h
      have HQ := Lib.hid h
      have hne := toList_ne hxp
      clear h HU
      generalize xB k baseB = x at *
      clear hxp hk
      go_upto_region 5 with fail
      refine wp_region_below (by kernel_rfl) (by kernel_rfl) ?_
      repeat (go_big_quiet_step (exact calls_below (U.out _)))
      refine wpQuiet_nil ?_
      rintro _ ⟨p, rfl⟩
      have R4 := Lib.hid (RG.out p)
      generalize p.1 = w4 at R4 ⊢
      clear R3 RG e4
      go_wp2_with fail
      go_ret2
      exact ⟨by rw [HQ.out]; rfl, hga ▸ R4.out.bel⟩
theorem runlock_any (a : Acc) (pw : ByteArray) (w : World) (hp : pw.size ≤ 1000) (hus : a.user.size ≤ 1000) :
    Calls Tryz.prog 19 #[a.v, .string pw] w fun e w' => UnlQ (unlB a pw) w e w' ∧ Below w.heap.size w w' := by
  cases h : a.ok with
  | true => exact runlock_yes a pw w hp h
  | false =>
    rw [show unlB a pw = .err 1 by rw [unlB, if_neg (by rw [h]; exact Bool.false_ne_true)]]
    exact runlock_no a pw w h hus
end Go.Proofs.YtfckjilhkdlpfaaGreatDoor
