/-
  ring.Make: the walk.
-/
import Derived.Test.YtfckjilhkdlpfaaGreatDoorRkD
namespace Go.Proofs.YtfckjilhkdlpfaaGreatDoor
open Go.RowKit MS

theorem rwFA (w : World) (fs fn fp : ByteArray) (fr : Int) (TF TB : TypeId) :
    Rw w [(w.heap.size, freA fs fn fp fr, TF), (w.heap.size + 1, accA ⟨#[]⟩ ⟨#[]⟩ 0 0 ⟨#[]⟩ ⟨#[]⟩ ⟨#[]⟩ ⟨#[]⟩, TB)]
      ((w.alloc (.cells #[.string fs, .string fn, .string fp, .int .i64 fr] TF (0, 0))).alloc (.cells #[.string ⟨#[]⟩, .string ⟨#[]⟩, .int .i64 0, .int .i64 0, .string ⟨#[]⟩, .string ⟨#[]⟩, .string ⟨#[]⟩, .string ⟨#[]⟩] TB (0, 0))) := by
  have h := ((Rw.nil w).alloc (freA fs fn fp fr) TF).alloc (accA ⟨#[]⟩ ⟨#[]⟩ 0 0 ⟨#[]⟩ ⟨#[]⟩ ⟨#[]⟩ ⟨#[]⟩) TB
  simp only [World.size_alloc] at h
  exact h
set_option maxRecDepth 1000000 in
set_option maxHeartbeats 2000000 in
theorem make_no1 (user pw : ByteArray) (f : Fre) (w : World) (hu : usrB user = false) :
    Calls Tryz.prog 16 #[.string user, .string pw, f.v] w fun e w' => e = .returned (.tuple #[noAcc.v, .int .i64 1]) ∧ Below w.heap.size w w' := by
  obtain ⟨fs, fn, fp, fr⟩ := f
  have U := Lib.hid (fun w => rightUser_any user w)
  rw [hu] at U
  unfold Fre.v
  simp only
  have R0 := Lib.hid (rwFA w fs fn fp fr 25 23)
  have IA := Lib.hid (infoAcc ⟨#[]⟩ ⟨#[]⟩ 0 0 ⟨#[]⟩ ⟨#[]⟩ ⟨#[]⟩ ⟨#[]⟩)
  clear hu
  go_enter Tryz.func16, Tryz.ntmps16
  go_wp2_with fail
  generalize (w.alloc (.cells #[.string fs, .string fn, .string fp, .int .i64 fr] 25 (0, 0))).alloc _ = W at R0 ⊢
  refine (U.out _).mono ?_
  rintro e w1 ⟨rfl, rfl⟩
  have R1 := Lib.hid (R0.out.store 1 (accA ⟨#[]⟩ ⟨#[]⟩ 0 0 ⟨#[]⟩ ⟨#[]⟩ ⟨#[]⟩ ⟨#[]⟩))
  have RB := Lib.hid (R0.out.row 1)
  generalize hga : w.heap.size = ga at *
  go_wp2_with (with_reducible refine wpList_store_row rfl 23 (.tmp 6) (.tmp 18) rfl (ga + 1) (accA ⟨#[]⟩ ⟨#[]⟩ 0 0 ⟨#[]⟩ ⟨#[]⟩ ⟨#[]⟩ ⟨#[]⟩) rfl rfl 23 (accA ⟨#[]⟩ ⟨#[]⟩ 0 0 ⟨#[]⟩ ⟨#[]⟩ ⟨#[]⟩ ⟨#[]⟩) RB.out IA.out rfl (one_accA _ _ _ _ _ _ _ _) ?_)
  exact bodyPost_ret (results_row_slot rfl _ _ (ga + 1) 23 (accA ⟨#[]⟩ ⟨#[]⟩ 0 0 ⟨#[]⟩ ⟨#[]⟩ ⟨#[]⟩ ⟨#[]⟩) (0, 0) _ (.int .i64 1) rfl rfl (R1.out.row 1) Tryz.underlying23 rfl IA.out) rfl ⟨rfl, hga ▸ R1.out.bel⟩

set_option maxRecDepth 1000000 in
set_option maxHeartbeats 2000000 in
theorem make_no2 (user pw : ByteArray) (f : Fre) (w : World) (hu : usrB user = true) (hf : f.ok = false) :
    Calls Tryz.prog 16 #[.string user, .string pw, f.v] w fun e w' => e = .returned (.tuple #[noAcc.v, .int .i64 1]) ∧ Below w.heap.size w w' := by
  have FF := Lib.hid (fun w => rightFresh_any f w)
  rw [hf] at FF
  clear hf
  obtain ⟨fs, fn, fp, fr⟩ := f
  have U := Lib.hid (fun w => rightUser_any user w)
  rw [hu] at U
  unfold Fre.v at *
  simp only at *
  have R0 := Lib.hid (rwFA w fs fn fp fr 25 23)
  have IA := Lib.hid (infoAcc ⟨#[]⟩ ⟨#[]⟩ 0 0 ⟨#[]⟩ ⟨#[]⟩ ⟨#[]⟩ ⟨#[]⟩)
  have IF := Lib.hid (infoFre fs fn fp fr)
  clear hu
  go_enter Tryz.func16, Tryz.ntmps16
  go_wp2_with fail
  generalize (w.alloc (.cells #[.string fs, .string fn, .string fp, .int .i64 fr] 25 (0, 0))).alloc _ = W at R0 ⊢
  refine (U.out _).mono ?_
  rintro e w1 ⟨rfl, rfl⟩
  generalize hga : w.heap.size = ga at *
  obtain ⟨c0, c1, c2, c3⟩ := fre_cells R0.out 0 rfl
  go_wp2_with fail
  refine (FF.out _).mono ?_
  rintro e w2 ⟨rfl, hb⟩
  have R1 := Lib.hid (R0.out.on hb)
  have R2 := Lib.hid (R1.out.store 1 (accA ⟨#[]⟩ ⟨#[]⟩ 0 0 ⟨#[]⟩ ⟨#[]⟩ ⟨#[]⟩ ⟨#[]⟩))
  have RB := Lib.hid (R1.out.row 1)
  clear hb R0 c0 c1 c2 c3 U FF
  go_wp2_with (with_reducible refine wpList_store_row rfl 23 (.tmp 6) (.tmp 18) rfl (ga + 1) (accA ⟨#[]⟩ ⟨#[]⟩ 0 0 ⟨#[]⟩ ⟨#[]⟩ ⟨#[]⟩ ⟨#[]⟩) rfl rfl 23 (accA ⟨#[]⟩ ⟨#[]⟩ 0 0 ⟨#[]⟩ ⟨#[]⟩ ⟨#[]⟩ ⟨#[]⟩) RB.out IA.out rfl (one_accA _ _ _ _ _ _ _ _) ?_)
  exact bodyPost_ret (results_row_slot rfl _ _ (ga + 1) 23 (accA ⟨#[]⟩ ⟨#[]⟩ 0 0 ⟨#[]⟩ ⟨#[]⟩ ⟨#[]⟩ ⟨#[]⟩) (0, 0) _ (.int .i64 1) rfl rfl (R2.out.row 1) Tryz.underlying23 rfl IA.out) rfl ⟨rfl, hga ▸ R2.out.bel⟩

set_option maxRecDepth 1000000 in
set_option maxHeartbeats 4000000 in
theorem make_yes (user pw : ByteArray) (f : Fre) (w : World) (hu : usrB user = true) (hf : f.ok = true) (hp : pw.size ≤ 1000) (G : Glob w) :
    Calls Tryz.prog 16 #[.string user, .string pw, f.v] w fun e w' => e = .returned (.tuple #[(wrapB (newA user 0 f.priv) pw f f.priv).v, .int .i64 0]) ∧ Below w.heap.size w w' := by
  have hwr := wr_new hu (.inl rfl) hf
  have FF := Lib.hid (fun w => rightFresh_any f w)
  rw [hf] at FF
  have PB := Lib.hid (fun w => public_yes f.priv w (fre_priv hf))
  have WR := Lib.hid (fun w gk G hg => wrap1_any (newA user 0 f.priv) pw f f.priv gk w G hwr hp hg)
  clear hf hwr
  generalize wrapB (newA user 0 f.priv) pw f f.priv = Z at *
  obtain ⟨z0, z1, z2, z3, z4, z5, z6, z7⟩ := Z
  obtain ⟨fs, fn, fp, fr⟩ := f
  have U := Lib.hid (fun w => rightUser_any user w)
  rw [hu] at U
  unfold newA Fre.v Acc.v bs at *
  simp only at *
  generalize xB fp baseB = x at *
  have R0 := Lib.hid (rwFA w fs fn fp fr 25 23)
  have IA := Lib.hid (infoAcc z0 z1 z2 z3 z4 z5 z6 z7)
  have HG := Lib.hid G
  clear hu hp G
  go_enter Tryz.func16, Tryz.ntmps16
  go_wp2_with fail
  generalize (w.alloc (.cells #[.string fs, .string fn, .string fp, .int .i64 fr] 25 (0, 0))).alloc _ = W at R0 ⊢
  refine (U.out _).mono ?_
  rintro e w1 ⟨rfl, rfl⟩
  generalize hga : w.heap.size = ga at *
  obtain ⟨c0, c1, c2, c3⟩ := fre_cells R0.out 0 rfl
  go_wp2_with fail
  refine (FF.out _).mono ?_
  rintro e w2 ⟨rfl, hb⟩
  have R1 := Lib.hid (R0.out.on hb)
  clear hb R0 c0 c1 c2 c3 U FF
  obtain ⟨c0, c1, c2, c3⟩ := fre_cells R1.out 0 rfl
  go_wp2_with fail
  refine (PB.out _).mono ?_
  rintro e w3 ⟨rfl, hb⟩
  have R2 := Lib.hid (R1.out.on hb)
  clear hb R1 c0 c1 c2 c3 PB
  obtain ⟨c0, c1, c2, c3⟩ := fre_cells R2.out 0 rfl
  go_wp2_with fail
  have R3 := Lib.hid (R2.out.alloc #[.string fp] 9)
  have HN := Lib.hid (MapKept.heap_alloc w3 (.cells #[.string fp] 9 (0, 0))).1
  generalize hgk : w3.heap.size = gk at *
  generalize w3.alloc (.cells #[.string fp] 9 (0, 0)) = w4 at *
  have G4 := Lib.hid (HG.out.on R3.out.bel)
  refine (WR.out _ _ G4.out HN.out).mono ?_
  rintro e w5 ⟨rfl, hb⟩
  have R4 := Lib.hid (R3.out.on hb)
  have R5 := Lib.hid (R4.out.store 1 (accA z0 z1 z2 z3 z4 z5 z6 z7))
  have RB := Lib.hid (R4.out.row 1)
  clear hb R2 R3 c0 c1 c2 c3 WR HN
  go_wp2_with (with_reducible refine wpList_store_row rfl 23 (.tmp 6) (.tmp 37) rfl (ga + 1) (accA z0 z1 z2 z3 z4 z5 z6 z7) rfl rfl 23 (accA ⟨#[]⟩ ⟨#[]⟩ 0 0 ⟨#[]⟩ ⟨#[]⟩ ⟨#[]⟩ ⟨#[]⟩) RB.out IA.out rfl (one_accA _ _ _ _ _ _ _ _) ?_)
  exact bodyPost_ret (results_row_slot rfl _ _ (ga + 1) 23 (accA z0 z1 z2 z3 z4 z5 z6 z7) (0, 0) _ (.int .i64 0) rfl rfl (R5.out.row 1) Tryz.underlying23 rfl IA.out) rfl ⟨rfl, hga ▸ R5.out.bel⟩
theorem make_any (user pw : ByteArray) (f : Fre) (w : World) (hp : pw.size ≤ 1000) (G : Glob w) :
    Calls Tryz.prog 16 #[.string user, .string pw, f.v] w fun e w' => e = .returned (.tuple #[(mkB user pw f).1.v, .int .i64 (mkB user pw f).2]) ∧ Below w.heap.size w w' := by
  unfold mkB
  cases hu : usrB user with
  | false => rw [if_neg (by simp)]; exact make_no1 user pw f w hu
  | true =>
    cases hf : f.ok with
    | false => rw [if_neg (by simp)]; exact make_no2 user pw f w hu hf
    | true => rw [if_pos (by simp)]; exact make_yes user pw f w hu hf hp G
end Go.Proofs.YtfckjilhkdlpfaaGreatDoor
