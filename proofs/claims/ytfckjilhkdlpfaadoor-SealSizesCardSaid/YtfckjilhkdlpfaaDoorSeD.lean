/-
  mailsackref08.Pad, Unpad: the walks.
-/
import Derived.Test.YtfckjilhkdlpfaaDoorSeC
import Derived.Laws.AppendOwn
namespace Go.Proofs.YtfckjilhkdlpfaaDoor
open Go.RowKit MS

theorem zeros_appS (l : List UInt8) (k : Nat) : l ++ List.replicate (k + 1) 0 = l ++ List.replicate k 0 ++ [0] := by
  rw [List.append_assoc, ← List.replicate_succ']
theorem below_app2S {w0 wr w' : World} {base : Nat} (hb : Below base w0 wr) (hbase : base ≤ wr.heap.size) (o : Obj) (v : Value) (n : Nat) (e : TypeId) (xs : List Value) (ho : wr.ownsRow base e 1 v n xs) (hg : (wr.alloc o).grownBy w' v.ownBlock) : Below base w0 w' :=
  (hb.alloc hbase o).grown hg (by rw [World.size_alloc]; exact Nat.le_succ_of_le hbase) (fun m hm => (ho.lt m hm).1)
def lenS : Value → Nat
  | .slice _ n _ => n
  | _ => 0

set_option maxRecDepth 100000 in
set_option maxHeartbeats 1000000 in
theorem rpad_any (s : ByteArray) (w : World) (hs : s.size ≤ 700) :
    Calls Tryd.prog 23 #[.string s] w fun e w' => e = .returned (.string (spadB s)) ∧ Below w.heap.size w w' := by
  have K := Lib.hid (fun w => rclass_any (s.size : Int) w)
  rw [clsI_nat _ hs] at K
  have s1 : (s.size : Int) ≤ 700 := by omega
  have s0 : (0 : Int) ≤ (s.size : Int) := by omega
  obtain ⟨i8, hj0, hy0, hy1, hy2⟩ : ∃ i, Tryd.prog.info? 5 = some i ∧ i.zero = some (.int .u8 0) ∧ i.size = 1 ∧ i.bytes = 1 := ⟨_, rfl, rfl, rfl, rfl⟩
  go_enter Tryd.func23, Tryd.ntmps23
  go_upto_region 1 with fail
  go_wp2_with (refine wpList_conv_own rfl (.tmp 13) 9 62 5 rfl s rfl Tryd.underlying9 Tryd.underlying62 Tryd.underlying5 w.heap.size s.size rfl (le_alloc (Nat.le_refl _) _) (by unfold maxLen; omega) ?_)
  intro g1 cap1 w1 hf hb1
  have HA := Lib.hid (show (w.alloc (.cells #[Value.int IntKind.u8 ((s.size : Int) % 256), Value.int IntKind.u8 ((s.size : Int) / 256)] 5 (0, 0))).ownsRow w.heap.size 5 1 (.slice (some ⟨w.heap.size, 0, none⟩) 2 2) 2 [Value.int IntKind.u8 ((s.size : Int) % 256), Value.int IntKind.u8 ((s.size : Int) / 256)] from ⟨rfl, .inr ⟨w.heap.size, 2, _, rfl, Nat.le_refl _, (MapKept.heap_alloc w _).1, Nat.le_refl _, by unfold maxLen; omega, rfl, rfl⟩⟩)
  have HA1 := Lib.hid (ownsRow_on HA.out (hb1.mono (by rw [World.size_alloc]; exact Nat.le_refl _)))
  have HB1 := Lib.hid ((below_alloc (Below.refl w.heap.size w) _).trans (hb1.mono (by omega)))
  have HNEW := Lib.hid (show ∀ j u, (vls (ls s))[j]? = some u → w1.cell? ((⟨g1, 0, none⟩ : Addr).add j) = some u from fun j u hu => by
    have hj : j < s.size := by
      have := (List.getElem?_eq_some_iff.1 hu).1
      simpa [vls, length_ls] using this
    rw [Addr.add_lit, Nat.zero_add, hf.cell j hj]
    exact hu)
  have HS1 := Lib.hid (show w.heap.size ≤ w1.heap.size from HB1.out.size)
  have HLEN := Lib.hid (show (vls (ls s)).length = s.size * 1 by simp [vls, length_ls])
  have HONE := Lib.hid (show ∀ u ∈ vls (ls s), u.oneCell' = true from fun u hu => by
    simp only [vls, List.mem_map] at hu
    obtain ⟨b, _, rfl⟩ := hu
    rfl)
  have HM1 := Lib.hid (show 2 + s.size ≤ maxLen by unfold maxLen; omega)
  have HM2 := Lib.hid (show (2 + s.size) * 1 ≤ 140737488355328 by omega)
  have HV0 := Lib.hid (show valB (UInt8.ofNat (s.size % 256)) = .int .u8 ((s.size : Int) % 256) by rw [valB, UInt8.toNat_ofNat', show s.size % 256 % 2 ^ 8 = s.size % 256 by omega]; rfl)
  have HV1 := Lib.hid (show valB (UInt8.ofNat (s.size / 256)) = .int .u8 ((s.size : Int) / 256) by rw [valB, UInt8.toNat_ofNat', show s.size / 256 % 2 ^ 8 = s.size / 256 by omega]; rfl)
  have HSP := Lib.hid (show ∀ k, k = clsN s.size - 2 - s.size → bs ((UInt8.ofNat (s.size % 256) :: UInt8.ofNat (s.size / 256) :: ls s) ++ List.replicate k 0) = spadB s from fun k hk => by rw [spadB, spadL, length_ls, hk]; rfl)
  have hge := clsN_ge s.size hs
  have hle := clsN_le s.size
  generalize UInt8.ofNat (s.size % 256) = x0 at *
  generalize UInt8.ofNat (s.size / 256) = x1 at *
  generalize w.alloc (.cells #[Value.int IntKind.u8 ((s.size : Int) % 256), Value.int IntKind.u8 ((s.size : Int) / 256)] 5 (0, 0)) = w0 at *
  clear hf hb1
  go_wp2_with (at_builtin; refine wpList_append_own _ rfl (.tmp 12) (.tmp 14) 62 rfl _ 5 i8 (.int .u8 0) 1 1 Tryd.underlying62 hj0 hy0 hy1 hy2 rfl (by decide) _ _ _ rfl HA1.out ⟨g1, 0, none⟩ s.size cap1 (vls (ls s)) rfl HLEN.out HNEW.out HONE.out HM1.out HM2.out HS1.out ?_)
  intro v2 w2 h1 h2 h3
  have HB2 := Lib.hid (HB1.out.grown h2 HS1.out (fun m hm => (HA1.out.lt m hm).1))
  have HO2 := Lib.hid (show w2.ownsRow w.heap.size 5 1 v2 (2 + s.size + 0) (vls ((x0 :: x1 :: ls s) ++ List.replicate 0 0)) from by
    rw [List.replicate_zero, List.append_nil, Nat.add_zero]
    have e : vls (x0 :: x1 :: ls s) = [Value.int IntKind.u8 ((s.size : Int) % 256), Value.int IntKind.u8 ((s.size : Int) / 256)] ++ vls (ls s) := by rw [← HV0.out, ← HV1.out]; rfl
    rw [e]; exact h1)
  clear h1 h2 h3
  obtain ⟨c, hc⟩ : ∃ c, clsN s.size = c := ⟨_, rfl⟩
  rw [hc] at K HSP hge hle
  have HGE := Lib.hid hge
  have HLE := Lib.hid hle
  have HLL := Lib.hid (length_ls s)
  clear hc hge hle hs HNEW HLEN HONE HA HA1 HB1 HM1 HM2 HV0 HV1 HS1 s1 s0
  go_wp2_with fail
  go_loopw [3] (fun x wr => ∃ k : Nat, 2 + s.size + k ≤ c ∧ wr.ownsRow w.heap.size 5 1 x (2 + s.size + k) (vls ((x0 :: x1 :: ls s) ++ List.replicate k 0)) ∧ Below w.heap.size w wr) (fun x _ => c - lenS x)
  case atStart => exact ⟨0, by have := HGE.out; omega, HO2.out, HB2.out⟩
  case round =>
    obtain ⟨k, hk, ho, hb⟩ := hrel
    obtain ⟨g, cap, rfl, _⟩ := ho.form (by omega)
    have HO := Lib.hid ho
    have HB := Lib.hid hb
    have hs0 : w.heap.size ≤ wr.heap.size := hb.size
    clear ho hb
    obtain ⟨q, hq⟩ : ∃ q, 2 + s.size + k = q := ⟨_, rfl⟩
    rw [hq] at HO hk ⊢
    have HQ := Lib.hid hq
    by_cases hlt : q < c
    · have HLT := Lib.hid hlt
      have m1 : (q : Int) < (c : Int) := by omega
      have HML := Lib.hid (show q + 1 ≤ maxLen by have := HLE.out; unfold maxLen; omega)
      have HMB := Lib.hid (show (q + 1) * 1 ≤ 140737488355328 by have := HLE.out; omega)
      have HAL := Lib.hid (HO.out.alloc (.cells #[.int .u8 0] 5 (0, 0)))
      clear hlt hq hk
      go_wp2_with fail
      refine (K.out _).mono ?_
      rintro e w3 ⟨rfl, rfl⟩
      go_wp2_with (at_builtin; refine wpList_append_own _ rfl (.tmp 22) (.tmp 23) 62 rfl _ 5 i8 (.int .u8 0) 1 1 Tryd.underlying62 hj0 hy0 hy1 hy2 rfl (by decide) _ _ _ rfl HAL.out ⟨wr.heap.size, 0, none⟩ 1 1 [.int .u8 0] rfl rfl (one_cell wr _ _) (one_one _ rfl) HML.out HMB.out (le_alloc hs0 _) ?_)
      intro v1 w1 h1 h2 h3
      have HB1 := Lib.hid (below_app2S HB.out hs0 _ _ _ _ _ HO.out h2)
      have HO1 := Lib.hid (show w1.ownsRow w.heap.size 5 1 v1 (2 + s.size + (k + 1)) (vls ((x0 :: x1 :: ls s) ++ List.replicate (k + 1) 0)) from by rw [zeros_appS, vls_app, ← Nat.add_assoc, HQ.out]; exact h1)
      have HLEN := Lib.hid (show lenS v1 = q + 1 from by
        obtain ⟨g, cap, e, _⟩ := h1.form (by omega)
        rw [e]; rfl)
      clear h1 h2 h3 hs0
      go_wp2_with fail
      go_roundw
      case rel => exact ⟨k + 1, by have := HLT.out; have := HQ.out; omega, HO1.out, HB1.out⟩
      case measure => rw [HLEN.out]; show c - (q + 1) < c - q; have := HLT.out; omega
    · have m1 : ¬ (q : Int) < (c : Int) := by omega
      have hqc : q = c := by omega
      have HF := Lib.hid (HSP.out k (by omega))
      have hcv := conv_pre _ q (by simp [HLL.out]; omega) (Nat.le_refl _) HO.out
      rw [List.take_of_length_le (by simp [HLL.out]; omega), HF.out] at hcv
      clear hlt hq hk hqc
      go_wp2_with fail
      refine (K.out _).mono ?_
      rintro e w3 ⟨rfl, rfl⟩
      go_wp2_with fail
      go_ret
      exact ⟨rfl, HB.out⟩
end Go.Proofs.YtfckjilhkdlpfaaDoor
