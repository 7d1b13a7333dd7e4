/-
  The document's small functions of folder 13: fresh, public, under; steps of drawn regions.
-/
import Derived.Test.YtfckjilhkdlpfaaGreatDoorRkE
import Derived.Test.YtfckjilhkdlpfaaGreatDoorRkF
namespace Go.Proofs.YtfckjilhkdlpfaaGreatDoor
open Go.RowKit MS

set_option maxHeartbeats 400000 in
theorem fresh_any (f : Fre) (w : World) :
    Calls Tryz.prog 13 #[f.v] w fun e w' => e = .returned f.v ∧ Below w.heap.size w w' := by
  obtain ⟨fs, fn, fp, fr⟩ := f
  unfold Fre.v
  simp only
  go_enter Tryz.func13, Tryz.ntmps13
  go_wp2_with fail
  refine bodyPost_ret (v := .agg #[.string fs, .string fn, .string fp, .int .i64 fr]) (by simp [results, Tryz.results13, go_sem]) rfl ⟨rfl, ?_⟩
  exact ((Below.refl _ _).alloc (Nat.le_refl _) _).alloc (by simp) _

set_option maxRecDepth 1000000 in
set_option maxHeartbeats 1000000 in
theorem rpublic_any (s : ByteArray) (w : World) (hs : s.size = 32) : Calls Tryz.prog 42 #[.string s] w fun e w' => e = .returned (.string (xB s baseB)) ∧ Below w.heap.size w w' := by
  have C := Lib.hid (fun w => rpoint_any s baseB w hs size_baseB)
  generalize xB s baseB = x at *
  have b0 := Bt.made (T := 5) (Below.refl w.heap.size w) (List.replicate 32 0)
  obtain ⟨w1, hw1⟩ : ∃ w1, w.alloc (.cells (vls (List.replicate 32 0)).toArray 5 (0, 0)) = w1 := ⟨_, rfl⟩
  obtain ⟨g, hg⟩ : ∃ g, w.heap.size = g := ⟨_, rfl⟩
  rw [hw1] at b0
  rw [hg] at b0
  have k0 := b0.cell 0 (by simp)
  have f0 := b0.free 0
  have p0 := b0.put 0 9
  rw [show valB 9 = .int .u8 9 from rfl] at p0
  have hcv := p0.conv 32 32 (by simp)
  rw [show bs ((List.replicate 32 (0 : UInt8)).set 0 9) = baseB from rfl] at hcv
  have P0 := Lib.hid p0
  rw [show (((List.replicate 32 (0 : UInt8)).getD 0 0).toNat : Int) = 0 from rfl] at k0
  have HW := Lib.hid hw1
  have HG := Lib.hid hg
  clear p0 b0 hw1 hg hs
  generalize baseB = bb at *
  go_enter Tryz.func42, Tryz.ntmps42
  go_upto_region 1 with fail
  go_wp2_with (refine wpList_make_u8 rfl (.const (.int .i64 32)) (.const (.int .i64 32)) rfl 32 rfl rfl (by omega) ?_; rw [HW.out, HG.out])
  refine (C.out _).mono ?_
  rintro e w2 ⟨rfl, hb⟩
  go_wp2_with fail
  go_ret
  exact ⟨rfl, P0.out.bel.trans (hb.mono P0.out.bel.size)⟩
set_option maxHeartbeats 400000 in
theorem runder_any (k : ByteArray) (w : World) (hk : k.size ≤ 1000) :
    Calls Tryz.prog 33 #[.string k] w fun e w' => e = .returned (.string (undB k)) ∧ Below w.heap.size w w' := by
  have D := Lib.hid (rdraw_any k ⟨#[]⟩ oldS 32 w (by omega) hk (by decide) (by decide))
  rw [show drawB k ⟨#[]⟩ oldS 32 = undB k from rfl, show oldS = ⟨#[111, 108, 100]⟩ from rfl] at D
  generalize undB k = u at *
  clear hk
  go_enter Tryz.func33, Tryz.ntmps33
  go_wp2_with fail
  refine D.out.mono ?_
  rintro e w1 ⟨rfl, hb⟩
  go_wp2_with fail
  go_ret
  exact ⟨rfl, hb⟩
theorem rpw_any (k s : ByteArray) (r : Nat) (w : World) (hr0 : 1 ≤ r) (hr : r ≤ 64) (h1 : k.size ≤ 1000) (h2 : s.size ≤ 1000) :
    Calls Tryz.prog 40 #[.string k, .string s, .int .i64 r] w fun e w' => e = .returned (.string (pwB k s r)) ∧ Below w.heap.size w w' := by
  have h := rpass_any k s r w hr h1 h2
  obtain ⟨n, rfl⟩ : ∃ n, r = n + 1 := ⟨r - 1, by omega⟩
  exact h

theorem infoRA (user salt : ByteArray) (rounds epoch : Int) (pub nonce wrapped old : ByteArray) : (Tryz.prog.info? 32).map (·.size) = some (accA user salt rounds epoch pub nonce wrapped old).size := by
  rw [show (accA user salt rounds epoch pub nonce wrapped old).size = 8 from rfl]; kernel_rfl
theorem infoRF (fs fn fp : ByteArray) (fr : Int) : (Tryz.prog.info? 36).map (·.size) = some (freA fs fn fp fr).size := by
  rw [show (freA fs fn fp fr).size = 4 from rfl]; kernel_rfl
section
variable {P : Program} {ops : Array Oper} {Q : Exit → Act → World → Prop}
/-- One operation alone can come up. -/
theorem wpAny_one {md : Region.Mode} {i f : Nat} {listed : Array Bool} {a : Act} {w : World} (hr : Region.ready md ops listed = [i]) (h : wpOp P ops Q i (fun a' w' => wpAny P md ops Q f (listed.setIfInBounds i true) a' w') a w) :
    wpAny P md ops Q (f + 1) listed a w :=
  ⟨fun h0 => (by rw [hr] at h0; cases h0), fun j hj => by rw [hr] at hj; rw [List.mem_singleton.1 hj]; exact h⟩
theorem wpOp_mk0 {i : Nat} {o : Oper} {K : Act → World → Prop} {a : Act} {w w2 : World} (hi : ops[i]? = some o) (hw : Region.wanted o (yielded ops a.tmps) = true) (hd : o.dst = none)
    (hrun : (execOp a.eval o).run P w = .ok .skip w2) (h : K a w2) : wpOp P ops Q i K a w := by
  unfold wpOp
  simp only [hi]
  rw [if_pos hw]
  refine .inl ?_
  unfold Oper.wp
  rw [hrun]
  simp only [Oper.upon, hd]
  exact h
end
end Go.Proofs.YtfckjilhkdlpfaaGreatDoor
