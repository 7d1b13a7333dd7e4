/-
  mailsackref02.Draw, mailsackref02.Password: the walks.
-/
import Derived.Test.YtkbfflnjbafamaaDoorRMac
namespace Go.Proofs.YtkbfflnjbafamaaDoor
open Go.RowKit MS

set_option maxRecDepth 1000000 in
set_option maxHeartbeats 1000000 in
theorem rdraw_any (sec salt info : ByteArray) (n : Nat) (w : World) (hn : n ≤ 8160) (h1 : sec.size ≤ 1000) (h2 : salt.size ≤ 1000) (h3 : info.size ≤ 1000) :
    Calls Tryd.prog 30 #[.string sec, .string salt, .string info, .int .i64 n] w fun e w' => e = .returned (.string (drawB sec salt info n)) ∧ Below w.heap.size w w' := by
  have HN := Lib.hid hn
  have n0 : (0 : Int) ≤ n := by omega
  have n1 : (n : Int) ≤ 8160 := by omega
  have M1 := Lib.hid (fun w => rmac_any salt sec w (by omega) (by omega))
  have HX := Lib.hid (size_macB salt sec)
  have HD := Lib.hid (show drawB sec salt info n = bs ((drO (macB salt sec) info ((n + 31) / 32)).take n) from rfl)
  have HI := Lib.hid h3
  generalize macB salt sec = X at M1 HX HD
  generalize drawB sec salt info n = R at HD
  clear hn h1 h2 h3
  go_enter Tryd.func30, Tryd.ntmps30
  go_wp2_with fail
  refine (M1.out _).mono ?_
  rintro e w1 ⟨rfl, hb1⟩
  have B1 := Lib.hid hb1
  clear hb1 M1
  go_wp2_with fail
  go_loopw [10, 11, 12] (fun o l c wr => ∃ (j : Nat) (b d : ByteArray), 32 * j < n + 32 ∧ c = .int .i64 (j + 1 : Nat) ∧ l = .string d ∧ d = drT X info j ∧ o = .string b ∧ b = bs (drO X info j) ∧ b.size = 32 * j ∧ Below w.heap.size w wr) (fun o _ _ _ => n - (match o with | .string b => b.size | _ => 0))
  case atStart => exact ⟨0, ⟨#[]⟩, ⟨#[]⟩, by omega, rfl, rfl, rfl, rfl, rfl, rfl, B1.out⟩
  case round =>
    obtain ⟨j, b, d, hj, rfl, rfl, hd, rfl, hb, hbs, hB⟩ := hrel
    have HB := Lib.hid hB
    have HJ := Lib.hid hj
    have HD1 := Lib.hid hd
    have HB1 := Lib.hid hb
    have hds : d.size ≤ 32 := by rw [hd]; exact size_drT X info j
    have HBS := Lib.hid hbs
    clear hB hj hd hb
    by_cases hlt : 32 * j < n
    · have j1 : (b.size : Int) < n := by omega
      obtain ⟨c, hc⟩ : ∃ c, c = j + 1 := ⟨_, rfl⟩
      have c255 : c ≤ 255 := by have := HN.out; omega
      have c0 : (0 : Int) ≤ c := by omega
      have c1 : (c : Int) ≤ 255 := by omega
      have HC := Lib.hid hc
      rw [← hc]
      have kcv := run_one_int (P := Tryd.prog) 33 9 5 Tryd.underlying33 Tryd.underlying5 Tryd.underlying9 (c : Int) c0 c1
      have M3 := Lib.hid (fun w => rmac_any X (d ++ info ++ bs [UInt8.ofNat c]) w (by rw [HX.out]; decide) (by
        rw [ByteArray.size_append, ByteArray.size_append, size_bs]
        have := HI.out
        simp only [List.length_cons, List.length_nil]
        omega))
      have HT := Lib.hid (show macB X (d ++ info ++ bs [UInt8.ofNat c]) = drT X info (j + 1) by rw [HC.out, HD1.out]; rfl)
      have s1 : (d.size : Int) + info.size ≤ 2000 := by have := HI.out; omega
      have s2 : (d.size : Int) + info.size + ((bs [UInt8.ofNat c]).size : Int) ≤ 2001 := by rw [size_bs]; have := HI.out; simp only [List.length_cons, List.length_nil]; omega
      have HBA := Lib.hid (below_alloc HB.out (.cells #[.int .u8 (c : Int)] 5 (0, 0)))
      have HLT := Lib.hid hlt
      clear hc c255 hds hbs hlt
      go_wp2_with fail
      refine (M3.out _).mono ?_
      rintro e w3 ⟨rfl, hb3⟩
      rw [HT.out]
      have HB3 := Lib.hid (HBA.out.trans (hb3.mono HBA.out.size))
      have HZ := Lib.hid (show (drT X info (j + 1)).size = 32 by rw [drT, size_macB])
      have HS := Lib.hid (show drO X info (j + 1) = drO X info j ++ ls (drT X info (j + 1)) from rfl)
      generalize hDD : drT X info (j + 1) = D at HZ HS ⊢
      have HDD := Lib.hid hDD
      have s3 : (b.size : Int) + D.size ≤ 10000 := by rw [HZ.out, HBS.out]; have := HN.out; have := HLT.out; omega
      clear hDD hb3 s1 s2 kcv HBA M3 HT
      go_wp2_with fail
      go_roundw
      case rel =>
        have := HLT.out
        refine ⟨j + 1, _, _, by omega, ?_, rfl, by rw [HDD.out], rfl, ?_, ?_, HB3.out⟩
        · have := HC.out; go_num
        · rw [HS.out, HB1.out, ← bs_append]; rfl
        · rw [ByteArray.size_append, HZ.out, HBS.out]; omega
      case measure =>
        show n - (b ++ D).size < n - b.size
        rw [ByteArray.size_append, HZ.out]
        omega
    · have j1 : ¬ ((b.size : Int) < n) := by omega
      have hq : (drO X info ((n + 31) / 32)).take n = (drO X info j).take n := (drO_take _ _ _ j (by have := HJ.out; omega) n (by omega))
      have hR : b.extract 0 n = R := by
        rw [HD.out, hq, HB1.out]
        apply ls_inj
        rw [ls_extract, ls_bs, ls_bs, List.drop_zero, Nat.sub_zero]
      have hc1 : (n : Int) ≤ b.size := by omega
      clear hq hlt hds hbs
      go_wp2_with fail
      go_ret
      exact ⟨rfl, HB.out⟩

theorem run_0001 (w : World) (b : Nat) (hb : w.heap.size = b) : (convert 33 9 (.slice (some ⟨b, 0, none⟩) 4 4)).run Tryd.prog (w.alloc (.cells #[.int .u8 0, .int .u8 0, .int .u8 0, .int .u8 1] 5 (0, 0))) = .ok (.string (bs [0, 0, 0, 1])) (w.alloc (.cells #[.int .u8 0, .int .u8 0, .int .u8 0, .int .u8 1] 5 (0, 0))) := by
  subst hb
  refine run_block_to_string _ 33 9 5 Tryd.underlying33 Tryd.underlying5 Tryd.underlying9 _ 4 4 5 (0, 0) [0, 0, 0, 1] (cs := #[.int .u8 0, .int .u8 0, .int .u8 0, .int .u8 1]) (heap_alloc_new w _) rfl (fun j h => ?_)
  match j, h with
  | 0, _ => rfl
  | 1, _ => rfl
  | 2, _ => rfl
  | 3, _ => rfl
theorem est_two0 (w : World) (L : List UInt8) (o : Obj) : ESt w.heap.size w L ((w.alloc (.cells (vls L).toArray 5 (0, 0))).alloc o) :=
  ⟨Nat.le_refl _, ((MapKept.heap_alloc _ _).2 _ (by rw [World.size_alloc]; omega)).trans (MapKept.heap_alloc w _).1, below_alloc (below_alloc (Below.refl _ _) _) _⟩
theorem ESt.drew {g : Nat} {w0 w : World} {L : List UInt8} (h : ESt g w0 L w) : ESt g w0 L w.drew := ⟨h.ge, h.ro, h.bel.drew⟩
/-- The rounds of the document's Password: what is digested, what is gathered. -/
def rU (k s : ByteArray) : Nat → ByteArray
  | 0 => s ++ bs [0, 0, 0, 1]
  | n + 1 => pwU k s n
def rX (k s : ByteArray) : Nat → List UInt8
  | 0 => List.replicate 32 0
  | n + 1 => pwX k s n
theorem rU_succ (k s : ByteArray) (n : Nat) : macB k (rU k s n) = rU k s (n + 1) := by cases n <;> rfl
theorem length_rX (k s : ByteArray) (n : Nat) : (rX k s n).length = 32 := by
  cases n with
  | zero => rfl
  | succ n => exact length_pwX k s n
theorem mixl_zeros (N : Nat) (l : List UInt8) (hl : l.length = N) : mixl (List.replicate N 0) (fun i => l.getD i 0) N = l := by
  apply List.ext_getElem?
  intro i
  by_cases h : i < N
  · rw [mixl_get _ _ _ _ (by simpa using h), if_pos h]
    simp [h, show i < l.length by omega]
  · rw [List.getElem?_eq_none (by rw [length_mixl]; simp; omega), List.getElem?_eq_none (by omega)]
theorem rX_succ (k s : ByteArray) (n : Nat) : mixl (rX k s n) (fun i => (ls (rU k s (n + 1))).getD i 0) 32 = rX k s (n + 1) := by
  cases n with
  | zero => exact mixl_zeros 32 _ (by rw [length_ls]; exact size_pwU k s 0)
  | succ n => rfl

set_option maxRecDepth 1000000 in
set_option maxHeartbeats 2000000 in
theorem rpass_any (k s : ByteArray) (r : Nat) (w : World) (hr : r ≤ 64) (h1 : k.size ≤ 1000) (h2 : s.size ≤ 1000) :
    Calls Tryd.prog 32 #[.string k, .string s, .int .i64 r] w fun e w' => e = .returned (.string (bs (rX k s r))) ∧ Below w.heap.size w w' := by
  have HR := Lib.hid hr
  have r1 : (r : Int) ≤ 64 := by omega
  have M := Lib.hid (fun n w => rmac_any k (rU k s n) w (by omega) (by
    cases n with
    | zero => rw [rU, ByteArray.size_append, size_bs]; simp only [List.length_cons, List.length_nil]; omega
    | succ n => rw [rU, size_pwU]; decide))
  have hss2 : (s.size : Int) + ((bs [0, 0, 0, 1]).size : Int) ≤ 1004 := by rw [size_bs]; simp only [List.length_cons, List.length_nil]; omega
  have HU := Lib.hid (rU_succ k s)
  have HU0 := Lib.hid (show rU k s 0 = s ++ bs [0, 0, 0, 1] from rfl)
  have HX := Lib.hid (rX_succ k s)
  have HXL := Lib.hid (length_rX k s)
  have HX0 := Lib.hid (show rX k s 0 = List.replicate 32 0 from rfl)
  have HUL := Lib.hid (show ∀ n, (rU k s (n + 1)).size = 32 from size_pwU k s)
  generalize rU k s = pU at *
  generalize rX k s = pX at *
  have kcv := run_0001
  have hmk := fun w => run_zeros 32 (by decide) w
  rw [show ((32 : Nat) : Int) = 32 from rfl, ← HX0.out] at hmk
  clear hr h1 h2
  go_enter Tryd.func32, Tryd.ntmps32
  go_wp2_with fail
  have E0 := Lib.hid (est_two0 w (pX 0) (.cells #[.int .u8 0, .int .u8 0, .int .u8 0, .int .u8 1] 5 (0, 0)))
  generalize (w.alloc (.cells (vls (pX 0)).toArray 5 (0, 0))).alloc (.cells #[.int .u8 0, .int .u8 0, .int .u8 0, .int .u8 1] 5 (0, 0)) = w1 at E0 ⊢
  rw [← HU0.out]
  generalize w.heap.size + 1 = g1
  generalize hg : w.heap.size = g at E0 ⊢
  have HG := Lib.hid hg
  clear hg kcv hmk hss2
  go_loopw [8, 9] (fun u i wr => ∃ j : Nat, j ≤ r ∧ i = .int .i64 j ∧ u = .string (pU j) ∧ ESt g w (pX j) wr) (fun _ i _ => r - (intOf i).toNat)
  case atStart => exact ⟨0, Nat.zero_le _, rfl, rfl, E0.out⟩
  case round =>
    obtain ⟨j, hj, rfl, rfl, he⟩ := hrel
    have E1 := Lib.hid he
    have HJ := Lib.hid hj
    clear he hj E0
    by_cases hlt : j < r
    · have j1 : (j : Int) < r := by omega
      have j0 : (0 : Int) ≤ j := by omega
      have HLT := Lib.hid hlt
      clear hlt
      go_wp2_with fail
      refine (M.out j _).mono ?_
      rintro e w5 ⟨rfl, hb5⟩
      rw [HU.out j]
      have E5 := Lib.hid (E1.out.on hb5)
      have HXJ := Lib.hid (HX.out j)
      have HDL := Lib.hid (HUL.out j)
      have HLJ := Lib.hid (HXL.out j)
      generalize hD : pU (j + 1) = D at HXJ HDL ⊢
      have HD := Lib.hid hD
      clear hb5 hD E1
      go_wp2_with fail
      obtain ⟨wo, rfl⟩ : ∃ wo : World, wo = wr := ⟨_, rfl⟩
      go_loopw [10] (fun i wr => ∃ p : Nat, p ≤ 32 ∧ i = .int .i64 p ∧ ESt g w (mixl (pX j) (fun i => (ls D).getD i 0) p) wr) (fun i _ => 32 - (intOf i).toNat)
      case atStart => exact ⟨0, by omega, rfl, by rw [mixl_zero]; exact E5.out⟩
      case round =>
        obtain ⟨p, hp, rfl, he⟩ := hrel
        have E6 := Lib.hid he
        clear he E5
        by_cases hlt : p < 32
        · have p1 : (p : Int) < 32 := by omega
          have p0 : (0 : Int) ≤ p := by omega
          have hpd : p < D.size := by rw [HDL.out]; exact hlt
          have hpi : (p : Int) < D.size := by omega
          have HP9 := Lib.hid hlt
          have hml : (mixl (pX j) (fun i => (ls D).getD i 0) p).length = 32 := by rw [length_mixl, HLJ.out]
          have c1 := E6.out.byte p (by rw [hml]; exact hlt)
          rw [mixl_getD _ _ _ (by rw [HLJ.out]; exact hlt)] at c1
          have f1 := frozen_of_row _ g p _ _ E6.out.ro
          have st := mixl_step (pX j) (fun i => (ls D).getD i 0) p (by rw [HLJ.out]; exact hlt)
          have hgd := ls_get D p hpd
          generalize (ls D).getD p 0 = y at st hgd
          generalize (pX j).getD p 0 = x at c1 st
          have put := E6.out.put p (x ^^^ y)
          rw [st] at put
          have HPUT := Lib.hid put
          have hxor : bits .xor .u8 (x.toNat : Int) (y.toNat : Int) = (((x ^^^ y).toNat : Nat) : Int) := by rw [u8_xor_nat _ _ x.toNat_lt y.toNat_lt, UInt8.toNat_xor]
          generalize x ^^^ y = z at HPUT hxor put
          clear hml hlt st put
          go_wp2_with fail
          go_still_tail 11, (by kernel_rfl)
          go_wp2_with fail
          go_roundw
          case rel => exact ⟨p + 1, HP9.out, by go_num, HPUT.out.drew⟩
          case measure => simp [intOf]; omega
        · have p1 : ¬ ((p : Int) < 32) := by omega
          have hp32 : p = 32 := by omega
          have E7 := E6.out
          rw [hp32, ← HD.out, HX.out j] at E7
          have E8 := Lib.hid E7
          clear E7 hp32 hlt
          go_wp2_with fail
          go_roundw
          case rel => exact ⟨j + 1, HLT.out, by go_num, by rw [HD.out], E8.out⟩
          case measure => simp [intOf]; omega
    · have j1 : ¬ ((j : Int) < r) := by omega
      have hjr : j = r := by have := HJ.out; omega
      have E9 := E1.out
      rw [hjr] at E9
      have hcv := conv_est E9 32 (HXL.out r)
      have HB := Lib.hid E9.bel
      clear E9 hjr hlt
      go_wp2_with fail
      go_ret
      exact ⟨rfl, HB.out⟩
end Go.Proofs.YtkbfflnjbafamaaDoor
