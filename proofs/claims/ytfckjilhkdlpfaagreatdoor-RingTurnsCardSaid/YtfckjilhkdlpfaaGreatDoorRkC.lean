/-
  ring.Unlock: the walk.
-/
import Derived.Test.YtfckjilhkdlpfaaGreatDoorRkB
namespace Go.Proofs.YtfckjilhkdlpfaaGreatDoor
open Go.RowKit MS

/-- The keys as Unlock hands them back. -/
def UnlQ (u : Unl) (w : World) (e : Ending) (w' : World) : Prop := match u with
  | .err n => e = .returned (.tuple #[.slice none 0 0, .int .i64 n])
  | .one k => ∃ g, w.heap.size ≤ g ∧ e = .returned (.tuple #[.slice (some ⟨g, 0, none⟩) 1 1, .int .i64 0]) ∧ w'.heap[g]? = some (.cells #[.string k] 9 (0, 0))
  | .two k o => ∃ g, w.heap.size ≤ g ∧ e = .returned (.tuple #[.slice (some ⟨g, 0, none⟩) 2 2, .int .i64 0]) ∧ w'.heap[g]? = some (.cells #[.string k, .string o] 9 (0, 0))

set_option maxRecDepth 1000000 in
set_option maxHeartbeats 1000000 in
theorem unlock_no (a : Acc) (pw : ByteArray) (w : World) (h : a.ok = false) :
    Calls Tryz.prog 18 #[a.v, .string pw] w fun e w' => e = .returned (.tuple #[.slice none 0 0, .int .i64 1]) ∧ Below w.heap.size w w' := by
  have hr := right_any a
  rw [h] at hr
  obtain ⟨user, salt, rounds, epoch, pub, nonce, wrapped, old⟩ := a
  unfold Acc.v at *
  simp only at *
  have HR := Lib.hid hr
  clear hr h
  go_enter Tryz.func18, Tryz.ntmps18
  go_wp2_with fail
  refine (HR.out _).mono ?_
  rintro e w1 ⟨rfl, hb⟩
  go_wp2_with fail
  go_ret2
  exact ⟨rfl, below_chain (below_alloc (Below.refl _ _) _) hb⟩

set_option maxRecDepth 1000000 in
set_option maxHeartbeats 4000000 in
theorem unlock_yes (a : Acc) (pw : ByteArray) (w : World) (hp : pw.size ≤ 1000) (G : Glob w) (hok : a.ok = true) :
    Calls Tryz.prog 18 #[a.v, .string pw] w fun e w' => UnlQ (unlB a pw) w e w' ∧ Below w.heap.size w w' := by
  have hr := right_any a
  have hf := Acc.fits_of hok
  have hu : unlB a pw = match privU a pw with
    | none => .err 10
    | some k => if xB k baseB = a.pub then (if a.old.size = 0 then .one k else match oldU a k with | none => .err 3 | some o => .two k o) else .err 10 := by rw [unlB, if_pos hok]; rfl
  rw [hok] at hr
  obtain ⟨user, salt, rounds, epoch, pub, nonce, wrapped, old⟩ := a
  obtain ⟨-, h2, h3, h4, h5, h6, h7, h8, h9, h10⟩ := hf
  unfold Acc.v at *
  unfold privU oldU at hu
  simp only at *
  obtain ⟨r, rfl⟩ : ∃ r : Nat, rounds = r := ⟨rounds.toNat, by omega⟩
  rw [Int.toNat_natCast] at hu
  have P := Lib.hid (fun w G => pass_yes pw salt r w (by omega) (by omega) hp (by omega) G)
  have hkz := size_pwB pw salt r
  generalize pwB pw salt r = key at *
  have hup : (user ++ pub).size ≤ 20000 := by rw [ByteArray.size_append]; omega
  have O := Lib.hid (fun w => aopen_any key nonce (user ++ pub) wrapped w hkz h8 hup (by omega))
  have HZ := Lib.hid (show ∀ k, openA key nonce (user ++ pub) wrapped = some k → k.size = 32 from fun k h => by have := size_openA h; omega)
  generalize openA key nonce (user ++ pub) wrapped = R at *
  have HR := Lib.hid hr
  have HU := Lib.hid hu
  have HG := Lib.hid G
  have R0 := Lib.hid (rwAcc w user salt r epoch pub nonce wrapped old 23)
  have HP := Lib.hid h7
  have HN := Lib.hid h8
  have HO := Lib.hid h10
  have u8 : (user.size : Int) ≤ 8 := by omega
  have p32 : (pub.size : Int) = 32 := by omega
  clear hr hu G hp hkz hup hok h2 h3 h4 h5 h6 h7 h8 h9 h10
  go_enter Tryz.func18, Tryz.ntmps18
  go_wp2_with fail
  refine (HR.out _).mono ?_
  rintro e w1 ⟨rfl, hb⟩
  have R1 := Lib.hid (R0.out.on hb)
  have G1 := Lib.hid (HG.out.on R1.out.bel)
  obtain ⟨c0, c1, c2, c3, c4, c5, c6, c7⟩ := acc_cells R1.out
  have HW := Lib.hid (show w.heap.size ≤ w1.heap.size from R1.out.bel.size)
  clear hb R0 HR
  generalize hga : w.heap.size = ga at *
  go_wp2_with fail
  refine (P.out _ G1.out).mono ?_
  rintro e w2 ⟨rfl, hb⟩
  have R2 := Lib.hid (R1.out.on hb)
  clear c0 c1 c2 c3 c4 c5 c6 c7
  obtain ⟨c0, c1, c2, c3, c4, c5, c6, c7⟩ := acc_cells R2.out
  clear hb R1 P G1
  go_wp2_with fail
  refine (O.out _).mono ?_
  rintro e w3 ⟨rfl, hb⟩
  have R3 := Lib.hid (R2.out.on hb)
  clear c0 c1 c2 c3 c4 c5 c6 c7
  obtain ⟨c0, c1, c2, c3, c4, c5, c6, c7⟩ := acc_cells R3.out
  clear hb R2 O
  cases R with
  | none =>
    simp only [openV]
    have h := HU.out
    simp only at h
    have HQ := Lib.hid h
    clear h HU
    go_wp2_with fail
    go_ret2
    exact ⟨by rw [HQ.out]; rfl, hga ▸ R3.out.bel⟩
  | some k =>
    simp only [openV]
    have h := HU.out
    simp only at h
    have hk := HZ.out k rfl
    have U := Lib.hid (fun w => public_yes k w hk)
    have hx := size_xB k baseB
    have SM := Lib.hid (fun w => same_any (xB k baseB) pub w (by omega))
    have OK := Lib.hid (fun w G => oldKey_any k w (by omega) G)
    have O2 := Lib.hid (fun w => aopen_any (undB k) nonce pub old w (size_undB k) HN.out (by have := HP.out; omega) (by have := HO.out; omega))
    generalize openA (undB k) nonce pub old = R2 at *
    generalize undB k = key2 at *
    by_cases hxp : xB k baseB = pub
    · rw [if_pos hxp] at h
      rw [decide_eq_true hxp] at SM
      generalize xB k baseB = x at *
      by_cases ho : old.size = 0
      · rw [if_pos ho] at h
        have HQ := Lib.hid h
        have oe : old.toList.isEmpty = true := by rw [isEmpty_size, ho]; rfl
        clear h HU ho hxp hx hk
        go_wp2_with fail
        refine (U.out _).mono ?_
        rintro e w4 ⟨rfl, hb⟩
        have R4 := Lib.hid (R3.out.on hb)
        clear c0 c1 c2 c3 c4 c5 c6 c7
        obtain ⟨c0, c1, c2, c3, c4, c5, c6, c7⟩ := acc_cells R4.out
        clear hb R3 U
        go_wp2_with fail
        refine (SM.out _).mono ?_
        rintro e w5 ⟨rfl, hb⟩
        have R5 := Lib.hid (R4.out.on hb)
        clear c0 c1 c2 c3 c4 c5 c6 c7
        obtain ⟨c0, c1, c2, c3, c4, c5, c6, c7⟩ := acc_cells R5.out
        clear hb R4 SM
        go_wp2_with fail
        go_ret2
        refine ⟨?_, hga ▸ R5.out.bel.alloc R5.out.bel.size _⟩
        rw [HQ.out]
        exact ⟨w5.heap.size, R5.out.bel.size, rfl, (MapKept.heap_alloc _ _).1⟩
      · rw [if_neg ho] at h
        have HQ := Lib.hid h
        have oe : old.toList.isEmpty = false := by
          rw [isEmpty_size]; simp [ho]
        clear h HU ho hxp hx hk
        go_wp2_with fail
        refine (U.out _).mono ?_
        rintro e w4 ⟨rfl, hb⟩
        have R4 := Lib.hid (R3.out.on hb)
        clear c0 c1 c2 c3 c4 c5 c6 c7
        obtain ⟨c0, c1, c2, c3, c4, c5, c6, c7⟩ := acc_cells R4.out
        clear hb R3 U
        go_wp2_with fail
        refine (SM.out _).mono ?_
        rintro e w5 ⟨rfl, hb⟩
        have R5 := Lib.hid (R4.out.on hb)
        have G5 := Lib.hid (HG.out.on R5.out.bel)
        clear c0 c1 c2 c3 c4 c5 c6 c7
        obtain ⟨c0, c1, c2, c3, c4, c5, c6, c7⟩ := acc_cells R5.out
        clear hb R4 SM
        go_wp2_with fail
        refine (OK.out _ G5.out).mono ?_
        rintro e w6 ⟨rfl, hb⟩
        have R6 := Lib.hid (R5.out.on hb)
        clear c0 c1 c2 c3 c4 c5 c6 c7
        obtain ⟨c0, c1, c2, c3, c4, c5, c6, c7⟩ := acc_cells R6.out
        clear hb R5 OK G5
        go_wp2_with fail
        refine (O2.out _).mono ?_
        rintro e w7 ⟨rfl, hb⟩
        have R7 := Lib.hid (R6.out.on hb)
        clear c0 c1 c2 c3 c4 c5 c6 c7
        clear hb R6 O2
        cases R2 with
        | none =>
          simp only [openV]
          have h := HQ.out
          simp only at h
          have HQ := Lib.hid h
          clear h
          go_wp2_with fail
          go_ret2
          exact ⟨by rw [HQ.out]; rfl, hga ▸ R7.out.bel⟩
        | some o =>
          simp only [openV]
          have h := HQ.out
          simp only at h
          have HQ := Lib.hid h
          clear h
          go_wp2_with fail
          go_ret2
          refine ⟨?_, hga ▸ R7.out.bel.alloc R7.out.bel.size _⟩
          rw [HQ.out]
          exact ⟨w7.heap.size, R7.out.bel.size, rfl, (MapKept.heap_alloc _ _).1⟩
    · rw [if_neg hxp] at h
      rw [decide_eq_false hxp] at SM
      generalize xB k baseB = x at *
      have HQ := Lib.hid h
      clear h HU hxp hx hk
      go_wp2_with fail
      refine (U.out _).mono ?_
      rintro e w4 ⟨rfl, hb⟩
      have R4 := Lib.hid (R3.out.on hb)
      clear c0 c1 c2 c3 c4 c5 c6 c7
      obtain ⟨c0, c1, c2, c3, c4, c5, c6, c7⟩ := acc_cells R4.out
      clear hb R3 U
      go_wp2_with fail
      refine (SM.out _).mono ?_
      rintro e w5 ⟨rfl, hb⟩
      have R5 := Lib.hid (R4.out.on hb)
      clear hb R4 SM c0 c1 c2 c3 c4 c5 c6 c7
      go_wp2_with fail
      go_ret2
      exact ⟨by rw [HQ.out]; rfl, hga ▸ R5.out.bel⟩
theorem unlock_any (a : Acc) (pw : ByteArray) (w : World) (hp : pw.size ≤ 1000) (G : Glob w) :
    Calls Tryz.prog 18 #[a.v, .string pw] w fun e w' => UnlQ (unlB a pw) w e w' ∧ Below w.heap.size w w' := by
  cases h : a.ok with
  | true => exact unlock_yes a pw w hp G h
  | false =>
    rw [show unlB a pw = .err 1 by rw [unlB, if_neg (by rw [h]; exact Bool.false_ne_true)]]
    exact unlock_no a pw w h
end Go.Proofs.YtfckjilhkdlpfaaGreatDoor
