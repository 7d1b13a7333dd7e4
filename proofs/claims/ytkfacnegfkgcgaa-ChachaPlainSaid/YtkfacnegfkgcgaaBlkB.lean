/-
  chacha.Block: the walk.
-/
import Derived.Test.YtkfacnegfkgcgaaBlkA
namespace Go.Proofs.Ytkfacnegfkgcgaa
open Go.RowKit MS

theorem z64 : Array.replicate 64 (Value.int .u8 0) = (#[.int .u8 0, .int .u8 0, .int .u8 0, .int .u8 0, .int .u8 0, .int .u8 0, .int .u8 0, .int .u8 0, .int .u8 0, .int .u8 0, .int .u8 0, .int .u8 0, .int .u8 0, .int .u8 0, .int .u8 0, .int .u8 0, .int .u8 0, .int .u8 0, .int .u8 0, .int .u8 0, .int .u8 0, .int .u8 0, .int .u8 0, .int .u8 0, .int .u8 0, .int .u8 0, .int .u8 0, .int .u8 0, .int .u8 0, .int .u8 0, .int .u8 0, .int .u8 0, .int .u8 0, .int .u8 0, .int .u8 0, .int .u8 0, .int .u8 0, .int .u8 0, .int .u8 0, .int .u8 0, .int .u8 0, .int .u8 0, .int .u8 0, .int .u8 0, .int .u8 0, .int .u8 0, .int .u8 0, .int .u8 0, .int .u8 0, .int .u8 0, .int .u8 0, .int .u8 0, .int .u8 0, .int .u8 0, .int .u8 0, .int .u8 0, .int .u8 0, .int .u8 0, .int .u8 0, .int .u8 0, .int .u8 0, .int .u8 0, .int .u8 0, .int .u8 0] : Array Value) := rfl
theorem conv_blk (w : World) (b : Nat) (s : Array W32) (hb : w.heap[b]? = some (.cells (blk s) 56 (0, 0))) (hs : (blk s).size = 64) :
    (convert 37 9 (.slice (some ⟨b, 0, none⟩) 64 64)).run Try.prog w = .ok (.string (blkB s)) w := by
  have hl : (ls (blkB s)).length = 64 := by rw [blk_blkB] at hs; simpa using hs
  have := run_block_to_string (P := Try.prog) w 37 9 5 Try.underlying37 Try.underlying5 Try.underlying9 b 64 64 56 (0, 0) (ls (blkB s)) (blk s) hb hl (fun j h => by
    rw [blk_blkB]
    simp [valB, h])
  rw [bs_ls] at this
  exact this

set_option maxRecDepth 100000 in
set_option maxHeartbeats 1000000 in
theorem block_yes (k n : ByteArray) (c : W32) (w : World) (hk : k.size = 32) (hn : n.size = 12) :
    Calls Try.prog 21 #[.string k, .string n, .int .u32 (wv c)] w fun e w' => e = .returned (.tuple #[.string (blkB (iw k n c)), .bool true]) ∧ Below w.heap.size w w' := by
  have H1 := Lib.hid (begin_yes k n c w hk hn)
  have hz := size_iw k n c
  generalize hI : iw k n c = I at H1 hz
  have H2 := Lib.hid (fun w => finish_any I w hz)
  have hb64 : (blk I).size = 64 := size_orow _ _
  have HB64 := Lib.hid hb64
  have HIW := Lib.hid hI
  have HI := Lib.hid (show (Try.prog.info? 53).map (·.size) = some (rowW I).size by rw [size_rowW, hz]; kernel_rfl)
  have HI5 := Lib.hid (show (Try.prog.info? 56).map (·.size) = some (blk I).size by rw [hb64]; kernel_rfl)
  have HO := Lib.hid (show (rowW I).all (·.oneCell') = true by simp [rowW, Value.oneCell'])
  have HO5 := Lib.hid (show (blk I).all (·.oneCell') = true from all_orow _ _)
  have HL := Lib.hid (show (Array.replicate 16 (Value.int .u32 0)).size = (rowW I).size by rw [size_rowW, hz]; rfl)
  have HL5 := Lib.hid (show (Array.replicate 64 (Value.int .u8 0)).size = (blk I).size by rw [hb64]; rfl)
  clear hk hn hz hI hb64
  go_enter Try.func21, Try.ntmps21
  go_wp2_with fail
  refine H1.out.mono ?_
  rintro e w1 ⟨rfl, hb1⟩
  have HR := Lib.hid ((MapKept.heap_alloc w1 (.cells (Array.replicate 16 (.int .u32 0)) 53 (0, 0))).1)
  have HR' := Lib.hid (setRow_heap _ _ _ (rowW I) _ _ HR.out)
  have HB1 := Lib.hid hb1
  clear hb1
  go_wp2_with (first
    | (with_reducible refine wpList_store_row rfl 53 (.tmp 8) (.tmp 16) rfl w1.heap.size (rowW I) rfl rfl 53 (Array.replicate 16 (.int .u32 0)) ?hg HI.out HL.out HO.out ?_)
    | (with_reducible refine wpList_load_row rfl 53 (.tmp 8) rfl w1.heap.size rfl 53 (rowW I) (0, 0) _ ?hg2 Try.underlying53 rfl HI.out ?_))
  case hg => exact HR.out
  case hg2 => exact HR'.out
  refine (H2.out _).mono ?_
  rintro e w2 ⟨rfl, hb2⟩
  have HS := Lib.hid ((MapKept.heap_alloc w2 (.cells (Array.replicate 64 (.int .u8 0)) 56 (0, 0))).1)
  have HS' := Lib.hid (setRow_heap _ _ _ (blk I) _ _ HS.out)
  have hcv := conv_blk _ w2.heap.size I HS'.out HB64.out
  rw [z64] at hcv
  have HB2 := Lib.hid hb2
  clear hb2
  go_wp2_with (with_reducible refine wpList_store_row rfl 56 (.tmp 10) (.tmp 21) rfl w2.heap.size (blk I) rfl rfl 56 (Array.replicate 64 (.int .u8 0)) ?hg3 HI5.out HL5.out HO5.out ?_)
  case hg3 => exact HS.out
  go_ret2
  refine ⟨by first | rfl | (rw [HIW.out]; rfl), ?_⟩
  refine below_setRow (below_alloc ?_ _) (by have := HB1.out.size; have := HB2.out.size; simp at this; omega) _
  exact (below_setRow (below_alloc HB1.out _) HB1.out.size _).trans (HB2.out.mono (by have := HB1.out.size; simp; omega))
end Go.Proofs.Ytkfacnegfkgcgaa
