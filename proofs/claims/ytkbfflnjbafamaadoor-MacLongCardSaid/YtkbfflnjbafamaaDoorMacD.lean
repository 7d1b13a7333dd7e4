/-
  mac.Draw: the walk.
-/
import Derived.Test.YtkbfflnjbafamaaDoorMacS
import Derived.Test.YtkbfflnjbafamaaDoorOwn2
namespace Go.Proofs.YtkbfflnjbafamaaDoor
open Go.RowKit MS

theorem ret2 {a b : Value} {w : World} {R : Ending → World → Prop} (h : R (.returned (.tuple #[a, b])) w) : R (.returned (.tuple #[a, b])) w := h
/-- The n-th digest drawn. -/
def drT (k info : ByteArray) : Nat → ByteArray
  | 0 => ⟨#[]⟩
  | n + 1 => macB k (drT k info n ++ info ++ bs [UInt8.ofNat (n + 1)])
theorem size_drT (k info : ByteArray) (n : Nat) : (drT k info n).size ≤ 32 := by
  cases n with
  | zero => exact Nat.zero_le _
  | succ n => rw [drT, size_macB]; exact Nat.le_refl _
/-- What n digests make. -/
def drO (k info : ByteArray) : Nat → List UInt8
  | 0 => []
  | n + 1 => drO k info n ++ ls (drT k info (n + 1))
theorem length_drO (k info : ByteArray) (n : Nat) : (drO k info n).length = 32 * n := by
  induction n with
  | zero => rfl
  | succ n ih => rw [drO, List.length_append, ih, length_ls, drT, size_macB]; omega
theorem drO_take (k info : ByteArray) (n j : Nat) (h : j ≤ n) (m : Nat) (hm : m ≤ 32 * j) : (drO k info n).take m = (drO k info j).take m := by
  induction n with
  | zero =>
    have e : j = 0 := by omega
    rw [e]
  | succ n ih =>
    by_cases hj : j = n + 1
    · rw [hj]
    · rw [drO, List.take_append_of_le_length (by rw [length_drO]; omega), ih (by omega)]
/-- n bytes drawn out of a secret. -/
def drawB (sec salt info : ByteArray) (n : Nat) : ByteArray := bs ((drO (macB salt sec) info ((n + 31) / 32)).take n)
theorem size_drawB (sec salt info : ByteArray) (n : Nat) : (drawB sec salt info n).size = n := by
  rw [drawB, size_bs, List.length_take, length_drO]; omega

set_option maxHeartbeats 400000 in
theorem draw_no (sec salt info : ByteArray) (n : Int) (w : World) (hn : n < 0 ∨ 8160 < n) :
    Calls Tryd.prog 29 #[.string sec, .string salt, .string info, .int .i64 n] w fun e w' => e = .returned (.tuple #[.string ⟨#[]⟩, .int .i64 1]) ∧ Below w.heap.size w w' := by
  by_cases h : n < 0
  · go_enter Tryd.func29, Tryd.ntmps29
    go_wp2_with fail
    go_ret2
    exact ⟨rfl, Below.refl _ _⟩
  · have h2 : n > 8160 := by omega
    go_enter Tryd.func29, Tryd.ntmps29
    go_wp2_with fail
    go_ret2
    exact ⟨rfl, Below.refl _ _⟩

set_option maxRecDepth 100000 in
set_option maxHeartbeats 1000000 in
theorem draw_yes (sec salt info : ByteArray) (n : Nat) (w : World) (hn : n ≤ 8160) (h1 : sec.size ≤ 1000) (h2 : salt.size ≤ 1000) (h3 : info.size ≤ 1000) (G : Glob w) :
    Calls Tryd.prog 29 #[.string sec, .string salt, .string info, .int .i64 n] w fun e w' => e = .returned (.tuple #[.string (drawB sec salt info n), .int .i64 0]) ∧ Below w.heap.size w w' := by
  obtain ⟨i8, hj0, hy0, hy1, hy2⟩ : ∃ i, Tryd.prog.info? 5 = some i ∧ i.zero = some (.int .u8 0) ∧ i.size = 1 ∧ i.bytes = 1 := ⟨_, rfl, rfl, rfl, rfl⟩
  have HG := Lib.hid G
  have HN := Lib.hid hn
  have n0 : (0 : Int) ≤ n := by omega
  have n1 : (n : Int) ≤ 8160 := by omega
  have M1 := Lib.hid (fun w G => mac_any salt sec w (by omega) (by omega) G)
  have HX := Lib.hid (size_macB salt sec)
  have HD := Lib.hid (show drawB sec salt info n = bs ((drO (macB salt sec) info ((n + 31) / 32)).take n) from rfl)
  have HI := Lib.hid h3
  have HB1 := Lib.hid (show i8.bytes * (n + 32) ≤ 281474976710656 by rw [hy2]; omega)
  have HB2 := Lib.hid (show n + 32 ≤ maxLen by unfold maxLen; omega)
  have HB3 := Lib.hid (show (n : Int) + 32 = ((n + 32 : Nat) : Int) by omega)
  generalize macB salt sec = X at M1 HX HD
  generalize drawB sec salt info n = R at HD
  clear hn h1 h2 h3 G
  go_enter Tryd.func29, Tryd.ntmps29
  go_wp2_with fail
  refine (M1.out _ HG.out).mono ?_
  rintro e w1 ⟨rfl, hb1⟩
  have B1 := Lib.hid hb1
  have S1 := Lib.hid hb1.size
  clear hb1
  go_wp2_with (with_reducible refine wpList_make_own _ rfl (.const (.int .i64 0)) (.tmp 24) 33 rfl w.heap.size 5 i8 (.int .u8 0) 1 Tryd.underlying33 hj0 hy0 hy1 .i64 .i64 ((n : Int) + 32) (n + 32) rfl rfl HB3.out HB1.out HB2.out S1.out ?_)
  intro w2 g1 g2
  have B2 := Lib.hid (B1.out.grown g2 S1.out (by intro k e; cases e))
  have O2 := Lib.hid g1
  clear g1 g2
  go_wp2_with fail
  go_loopw [11, 12, 13] (fun v l c wr => ∃ j : Nat, 32 * j < n + 32 ∧ c = .int .u8 ((j + 1) % 256 : Nat) ∧ l = .string (drT X info j) ∧ (∃ g cap, v = .slice (some ⟨g, 0, none⟩) (32 * j) cap) ∧ wr.ownsRow w.heap.size 5 1 v (32 * j) (vls (drO X info j)) ∧ Below w.heap.size w wr) (fun v _ _ _ => n - sliceLen v)
  case atStart => exact ⟨0, by omega, rfl, rfl, ⟨_, _, rfl⟩, O2.out, B2.out⟩
  case round =>
    obtain ⟨j, hj, rfl, rfl, ⟨g, cap, rfl⟩, hown, hb⟩ := hrel
    have HO := Lib.hid hown
    have HB := Lib.hid hb
    have HJ := Lib.hid hj
    clear hown hb hj
    by_cases hlt : 32 * j < n
    · have j1 : 32 * (j : Int) < n := by omega
      have j0 : (0 : Int) ≤ j := by omega
      obtain ⟨c, hc⟩ : ∃ c, c = j + 1 := ⟨_, rfl⟩
      have c255 : c ≤ 255 := by have := HN.out; omega
      have c0 : (0 : Int) ≤ c := by omega
      have c1 : (c : Int) ≤ 255 := by omega
      have hcm : (j + 1) % 256 = c := by rw [← hc, Nat.mod_eq_of_lt (by omega)]
      have HC := Lib.hid hc
      rw [hcm]
      have kcv := run_one_int (P := Tryd.prog) 33 9 5 Tryd.underlying33 Tryd.underlying5 Tryd.underlying9 (c : Int) c0 c1
      have M3 := Lib.hid (fun w G => mac_any X (drT X info j ++ info ++ bs [UInt8.ofNat c]) w (by rw [HX.out]; decide) (by
        rw [ByteArray.size_append, ByteArray.size_append, size_bs]
        have := size_drT X info j
        have := HI.out
        simp only [List.length_cons, List.length_nil]
        omega) G)
      have HT := Lib.hid (show macB X (drT X info j ++ info ++ bs [UInt8.ofNat c]) = drT X info (j + 1) by rw [HC.out]; rfl)
      have st := size_drT X info j
      have HTT := Lib.hid st
      clear hc hcm c255
      generalize hTJ : drT X info j = TJ at M3 HT st HTT ⊢
      clear hTJ
      have s1 : (TJ.size : Int) + info.size ≤ 2000 := by have := HI.out; omega
      have s2 : (TJ.size : Int) + info.size + ((bs [UInt8.ofNat c]).size : Int) ≤ 2001 := by rw [size_bs]; have := HI.out; simp only [List.length_cons, List.length_nil]; omega
      have HBA := Lib.hid (below_alloc HB.out (.cells #[.int .u8 (c : Int)] 5 (0, 0)))
      have HOA := Lib.hid (HO.out.alloc (.cells #[.int .u8 (c : Int)] 5 (0, 0)))
      clear st
      go_wp2_with fail
      refine (M3.out _ (HG.out.on HBA.out)).mono ?_
      rintro e w3 ⟨rfl, hb3⟩
      rw [HT.out]
      have HB3 := Lib.hid (HBA.out.trans (hb3.mono HBA.out.size))
      have HO3 := Lib.hid (ownsRow_on HOA.out hb3)
      have HZ := Lib.hid (show (drT X info (j + 1)).size = 32 by rw [drT, size_macB])
      have HS := Lib.hid (show drO X info (j + 1) = drO X info j ++ ls (drT X info (j + 1)) from rfl)
      generalize hDD : drT X info (j + 1) = D at HZ HS ⊢
      have HDD := Lib.hid hDD
      clear hDD
      have HBB := Lib.hid (show 32 * j + D.size ≤ 1000000 by rw [HZ.out]; have := HN.out; omega)
      clear hb3 s1 s2 kcv HBA HOA M3 HT HTT
      go_wp2_with (with_reducible refine wpList_append_str rfl (.tmp 41) (.tmp 42) rfl w.heap.size (.slice (some ⟨g, 0, none⟩) (32 * j) cap) (32 * j) (drO X info j) rfl HO3.out D rfl HBB.out HB3.out.size ?_)
      intro v' w4 h1 h2
      have HB4 := Lib.hid (HB3.out.grown h2 HB3.out.size (fun m hm => (HO3.out.lt m hm).1))
      rw [← HS.out, HZ.out] at h1
      have HO4 := Lib.hid h1
      clear h1 h2
      go_wp2_with fail
      go_roundw
      case rel =>
        obtain ⟨g', cap', hv, _⟩ := HO4.out.form (by omega)
        have := HN.out
        refine ⟨j + 1, by omega, ?_, by rw [HDD.out], ⟨g', cap', by rw [hv]; rfl⟩, HO4.out, HB4.out⟩
        have := HC.out
        go_num
      case measure =>
        obtain ⟨g', cap', rfl, _⟩ := HO4.out.form (by omega)
        simp only [sliceLen]
        omega
    · have j1 : ¬ (32 * (j : Int) < n) := by omega
      have hq : (drO X info ((n + 31) / 32)).take n = (drO X info j).take n := (drO_take _ _ _ j (by have := HJ.out; omega) n (by omega))
      have hR := HD.out
      obtain ⟨hcap, hmx, _⟩ := own_cap HO.out
      have hc1 : (n : Int) ≤ (cap : Int) := by omega
      have hcv := conv_pre (drO X info j) n (length_drO _ _ _) (by omega) HO.out
      rw [← hq, ← hR] at hcv
      have hc2 : (cap : Int) ≤ 9223372036854775807 := by unfold maxLen at hmx; omega
      clear hq hR hlt hcap hmx
      go_wp2_with fail
      go_ret2
      exact ⟨rfl, HB.out⟩
end Go.Proofs.YtkbfflnjbafamaaDoor
