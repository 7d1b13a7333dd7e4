/-
  chacha.Block.
-/
import Derived.Test.YtkfacnegfkgcgaaBeg
namespace Go.Proofs.Ytkfacnegfkgcgaa
open Go.RowKit MS

def obB (x : W32) : Nat → UInt8
  | 0 => UInt8.ofNat (x.toNat % 256)
  | 1 => UInt8.ofNat (x.toNat / 256 % 256)
  | 2 => UInt8.ofNat (x.toNat / 65536 % 256)
  | _ => UInt8.ofNat (x.toNat / 16777216 % 256)
def valB (b : UInt8) : Value := .int .u8 (b.toNat : Int)
theorem byte_val (m : Nat) : ((UInt8.ofNat (m % 256)).toNat : Int) = (m : Int) % 256 := by
  have : (UInt8.ofNat (m % 256)).toNat = m % 256 := by simp
  rw [this]; omega
theorem ob_val (x : W32) : ∀ j, ob x j = valB (obB x j)
  | 0 => by
    show Value.int .u8 (wv x % 256) = .int .u8 ((UInt8.ofNat (x.toNat % 256)).toNat : Int)
    rw [byte_val]; rfl
  | 1 => by
    show Value.int .u8 (wv x / 256 % 256) = .int .u8 ((UInt8.ofNat (x.toNat / 256 % 256)).toNat : Int)
    rw [byte_val, Int.natCast_ediv]; rfl
  | 2 => by
    show Value.int .u8 (wv x / 65536 % 256) = .int .u8 ((UInt8.ofNat (x.toNat / 65536 % 256)).toNat : Int)
    rw [byte_val, Int.natCast_ediv]; rfl
  | _ + 3 => by
    show Value.int .u8 (wv x / 16777216 % 256) = .int .u8 ((UInt8.ofNat (x.toNat / 16777216 % 256)).toNat : Int)
    rw [byte_val, Int.natCast_ediv]; rfl
def oB (z : Nat → W32) : Nat → Array UInt8
  | 0 => Array.replicate 64 0
  | i + 1 => ((((oB z i).setIfInBounds (4 * i) (obB (z i) 0)).setIfInBounds (4 * i + 1) (obB (z i) 1)).setIfInBounds (4 * i + 2) (obB (z i) 2)).setIfInBounds (4 * i + 3) (obB (z i) 3)
theorem orow_oB (z : Nat → W32) (i : Nat) : orow z i = (oB z i).map valB := by
  induction i with
  | zero => rw [orow, oB, Array.map_replicate]; rfl
  | succ i ih => rw [orow, oB, Array.map_setIfInBounds, Array.map_setIfInBounds, Array.map_setIfInBounds, Array.map_setIfInBounds, ih, ob_val, ob_val, ob_val, ob_val]
/-- The block's bytes. -/
def blkB (s : Array W32) : ByteArray := ⟨oB (zz (drs 10 s) s) 16⟩
theorem blk_blkB (s : Array W32) : blk s = (ls (blkB s)).toArray.map valB := by
  show orow _ 16 = _
  rw [orow_oB]
  show _ = ((oB (zz (drs 10 s) s) 16).toList.toArray).map valB
  rw [Array.toArray_toList]
end Go.Proofs.Ytkfacnegfkgcgaa
