/-
  What a box of a public key opens to.
-/
import Derived.Test.YtfckjilhkdlpfaaDoorSeQ
namespace Go.Proofs.YtfckjilhkdlpfaaDoor
open Go.RowKit MS

theorem boxO_boxB (pr o s : ByteArray) (hp : pr.size = 32) (ho : o.size = 32) : boxO pr (boxB (xB pr baseB) o s) = some (spadB s) := by
  have hy := size_xB o baseB
  have e1 : (boxB (xB pr baseB) o s).extract 0 32 = xB o baseB := ext_app_left _ _ _ hy.symm
  have hc : xB pr (xB o baseB) = xB o (xB pr baseB) := xB_comm o pr baseB ho hp
  have e2 : bothO pr (boxB (xB pr baseB) o s) = bothB (xB o (xB pr baseB)) (xB o baseB ++ xB pr baseB) := by rw [bothO, e1, hc]
  have e3 : (boxB (xB pr baseB) o s).extract 32 (boxB (xB pr baseB) o s).size = sealA ((bothB (xB o (xB pr baseB)) (xB o baseB ++ xB pr baseB)).extract 0 32) ((bothB (xB o (xB pr baseB)) (xB o baseB ++ xB pr baseB)).extract 32 44) ⟨#[]⟩ (spadB s) :=
    ext_app_right _ _ _ _ hy.symm (by rw [boxB, ByteArray.size_append])
  rw [boxO, e2, e3, open_seal]
theorem size_boxB (p o s : ByteArray) (hs : s.size ≤ 700) : (boxB p o s).size = 48 + clsN s.size := by
  rw [boxB, ByteArray.size_append, size_xB, size_sealA, size_spadB s hs]; omega
theorem sopen_back (pr o s : ByteArray) (hp : pr.size = 32) (ho : o.size = 32) (hs : s.size ≤ 700) : sopenV pr (boxB (xB pr baseB) o s) = .tuple #[.string s, .int .i64 0] := by
  have := size_boxB (xB pr baseB) o s hs
  rw [sopenV, if_neg (by omega), boxO_boxB pr o s hp ho]
  show unpadV (unpadB (spadB s)) = _
  rw [unpad_pad s hs]; rfl
end Go.Proofs.YtfckjilhkdlpfaaDoor
