/-
  mailsacklaw05.ChachaPlain: the walk.
-/
import Derived.Test.YtkfacnegfkgcgaaLTrn
namespace Go.Proofs.Ytkfacnegfkgcgaa
open Go.RowKit MS

theorem plain_stream (k n : ByteArray) (c : W32) (m : Nat) : bs (trn (List.replicate (64 * m) 0) (ks k n c)) = bs (sl k n c m) := by
  have H : ∀ f : Nat → UInt8, trn (List.replicate (64 * m) 0) f = (List.range (64 * m)).map f := by
    intro f
    unfold trn
    rw [List.length_replicate]
    apply List.map_congr_left
    intro i hi
    have h := List.mem_range.1 hi
    have e : (List.replicate (64 * m) (0 : UInt8)).getD i 0 = 0 := by simp [List.getD_eq_getElem?_getD, h]
    rw [e, UInt8.zero_xor]
  rw [H, sl]
theorem block_of (k n : ByteArray) (c : W32) (m i : Nat) (h : i < m) : (bs (sl k n c m)).extract (64 * i) (64 * i + 64) = blkB (iw k n (c + BitVec.ofNat 32 i)) := by
  have hb := length_blkB (iw k n (c + BitVec.ofNat 32 i))
  apply ls_inj
  rw [ls_extract, ls_bs, show 64 * i + 64 - 64 * i = 64 by omega]
  apply List.ext_getElem?
  intro j
  by_cases hj : j < 64
  · rw [List.getElem?_take, if_pos hj, List.getElem?_drop, sl, List.getElem?_map, List.getElem?_range (by omega), Option.map_some, ks_at k n c i j hj]
    simp [hb, hj]
  · rw [List.getElem?_take, if_neg hj, List.getElem?_eq_none (by omega)]
theorem zeros_vls (m : Nat) : (madeCells #[Value.int .u8 0] m).toList = vls (List.replicate m 0) := by
  rw [toList_madeCells_one, vls, List.map_replicate]
  rfl

set_option maxHeartbeats 800000 in
theorem plain_any (k n : ByteArray) (c : W32) (u : UInt8) (w : World) :
    Calls Try.prog 8 #[.string k, .string n, .int .u32 (wv c), .int .u8 (u.toNat : Int)] w fun e w' => e = .returned (.bool true) ∧ Below w.heap.size w w' := by
  have A := Lib.hid awake05_any
  by_cases h1 : k.size = 32
  · have t1 : ((k.size : Int) != 32) = false := by simp; omega
    have H1 := Lib.hid h1
    clear h1
    by_cases h2 : n.size = 12
    · have t2 : ((n.size : Int) != 12) = false := by simp; omega
      have H2 := Lib.hid h2
      clear h2
      obtain ⟨i8, hj0, hy0, hy1, hy2⟩ : ∃ i, Try.prog.info? 5 = some i ∧ i.zero = some (.int .u8 0) ∧ i.size = 1 ∧ i.bytes = 1 := ⟨_, rfl, rfl, rfl, rfl⟩
      obtain ⟨m, hm, hmu⟩ : ∃ m : Nat, m < 21 ∧ ((u.toNat : Int)).tmod 21 = (m : Int) := by
        refine ⟨u.toNat % 21, by omega, ?_⟩
        rw [Int.tmod_eq_emod_of_nonneg (by omega)]
        omega
      have hu0 : (0 : Int) ≤ u.toNat := by omega
      have hu1 : (u.toNat : Int) < 256 := by have := u.toNat_lt; omega
      have hm21 : (m : Int) < 21 := by omega
      have hm0 : (0 : Int) ≤ m := by omega
      have Y := Lib.hid (fun w => turn_yes k n c (bs (List.replicate (64 * m) 0)) w H1.out H2.out)
      rw [ls_bs, plain_stream] at Y
      have B := Lib.hid (fun c w => block_yes k n c w H1.out H2.out)
      go_enter Try.func8, Try.ntmps8
      have HB1 := Lib.hid (show i8.bytes * (64 * m) ≤ 281474976710656 by rw [hy2]; omega)
      have HB2 := Lib.hid (show 64 * m ≤ maxLen by unfold maxLen; omega)
      go_wp2_with (with_reducible refine wpList_make_full _ rfl (.tmp 32) (.tmp 32) 37 rfl w.heap.size 5 i8 (.int .u8 0) 1 Try.underlying37 hj0 hy0 hy1 .i64 .i64 (64 * (m : Int)) (64 * (m : Int)) (64 * m) rfl rfl (by omega) (by omega) HB1.out HB2.out (Nat.le_refl _) ?_)
      intro w1 g1 g2
      rw [zeros_vls] at g1
      have hcv := conv_out (List.replicate (64 * m) 0) (64 * m) (by simp) g1
      have HBW := Lib.hid ((Below.refl w.heap.size w).grown g2 (Nat.le_refl _) (by intro k e; cases e))
      clear g1 g2
      go_wp2_with fail
      refine (Y.out _).mono ?_
      rintro e w2 ⟨rfl, hb2⟩
      have HB2 := Lib.hid (HBW.out.trans (hb2.mono HBW.out.size))
      have HSL := Lib.hid (fun i h => block_of k n c m i h)
      have hsz : (bs (sl k n c m)).size = 64 * m := by rw [size_bs, length_sl]
      generalize bs (sl k n c m) = T at hsz HSL
      clear hb2 hcv HBW Y
      go_wp2_with fail
      go_loopw [48] (fun i wr => ∃ j : Nat, j ≤ m ∧ i = .int .i64 j ∧ Below w.heap.size w wr) (fun i _ => m - (intOf i).toNat)
      case atStart => exact ⟨0, by omega, rfl, HB2.out⟩
      case round =>
        obtain ⟨j, hj, rfl, hb⟩ := hrel
        have HB := Lib.hid hb
        clear hb
        by_cases hjm : j < m
        · have jm : (j : Int) < m := Int.ofNat_lt.2 hjm
          have jn : (0 : Int) ≤ j := Int.natCast_nonneg j
          have hadd : (wv c + (j : Int)) % 4294967296 = wv (c + BitVec.ofNat 32 j) := by
            rw [← w_add, show wv (BitVec.ofNat 32 j) = (j : Int) by unfold wv; rw [BitVec.toNat_ofNat, Nat.mod_eq_of_lt (by omega)]]
          have hts : (64 * (j : Int) + 64) ≤ T.size := by omega
          have HJ := Lib.hid hjm
          go_wp2_with fail
          refine (B.out _ _).mono ?_
          rintro e w3 ⟨rfl, hb3⟩
          rw [← HSL.out j HJ.out]
          have HB3 := Lib.hid (HB.out.trans (hb3.mono HB.out.size))
          clear hb3 hadd
          go_wp2_with fail
          go_roundw
          case rel => exact ⟨j + 1, by omega, by go_num, HB3.out⟩
          case measure => simp [intOf]; omega
        · have jm : ¬ ((j : Int) < m) := by omega
          go_wp2_with fail
          refine (A.out _).mono ?_
          rintro e w3 ⟨rfl, hb3⟩
          go_wp2_with fail
          go_ret
          exact ⟨rfl, HB.out.trans (hb3.mono HB.out.size)⟩
    · have t2 : ((n.size : Int) != 12) = true := by simp; omega
      clear h2
      go_enter Try.func8, Try.ntmps8
      go_wp2_with fail
      refine (A.out _).mono ?_
      rintro e w1 ⟨rfl, hb1⟩
      go_wp2_with fail
      go_ret
      exact ⟨rfl, hb1⟩
  · have t1 : ((k.size : Int) != 32) = true := by simp; omega
    clear h1
    go_enter Try.func8, Try.ntmps8
    go_wp2_with fail
    refine (A.out _).mono ?_
    rintro e w1 ⟨rfl, hb1⟩
    go_wp2_with fail
    go_ret
    exact ⟨rfl, hb1⟩
end Go.Proofs.Ytkfacnegfkgcgaa
