/-
  mailsackref01.Sum: the walk.
-/
import Derived.Test.YtkbfflnjbafamaaDoorOwnF
import Derived.Test.YtkbfflnjbafamaaDoorOwn2
import Derived.Test.YtkbfflnjbafamaaDoorShaP
import Derived.Test.YtkbfflnjbafamaaDoorRShB
import Derived.Test.YtkbfflnjbafamaaDoorShaK
namespace Go.Proofs.YtkbfflnjbafamaaDoor
open Go.RowKit MS

set_option maxRecDepth 1000000 in
theorem state_any (w : World) :
    Calls Tryd.prog 24 #[] w fun e w' => e = .returned (.slice (some ⟨w.heap.size, 0, none⟩) 8 8) ∧ w' = w.alloc (.cells (rowW IV) 25 (0, 0)) := by
  go_enter Tryd.func24, Tryd.ntmps24
  go_wp2_with fail
  go_ret
  exact ⟨rfl, by kernel_rfl⟩

/-- The list behind the converted text, after j noughts. -/
def padJ (s : ByteArray) (j : Nat) : List UInt8 := ls s ++ 128 :: List.replicate j 0
theorem length_padJ (s : ByteArray) (j : Nat) : (padJ s j).length = s.size + 1 + j := by simp [padJ, length_ls]; omega
theorem cell_new (w : World) (x : Value) (T : TypeId) : (w.alloc (.cells #[x] T (0, 0))).cell? ⟨w.heap.size, 0, none⟩ = some x := cell_of_row _ _ _ _ _ _ (MapKept.heap_alloc _ _).1
theorem padJ_succ (s : ByteArray) (j : Nat) : padJ s (j + 1) = padJ s j ++ [0] := by
  rw [padJ, padJ, List.replicate_succ']
  simp
structure PaSt (w0 : World) (l : List UInt8) (v : Value) (w : World) : Prop where
  own : ownsF w w0.heap.size 5 v l.length (vls l)
  bel : Below w0.heap.size w0 w
theorem PaSt.app {w0 w w' : World} {l : List UInt8} {v v' : Value} {x : UInt8} {o : Obj} (h : PaSt w0 l v w) (h1 : ownsF w' w0.heap.size 5 v' (l.length + 1) (vls l ++ [valB x])) (h2 : (w.alloc o).grownBy w' v.ownBlock) : PaSt w0 (l ++ [x]) v' w' :=
  ⟨by rw [vls_app, List.length_append]; exact h1, (below_alloc h.bel o).grown h2 (le_alloc h.bel.size _) (fun m hm => (h.own.lt m hm).1)⟩
theorem be8_snoc (C j : Nat) (hj : j < 8) : (be8 C).take (j + 1) = (be8 C).take j ++ [UInt8.ofNat (C / 2 ^ (8 * (7 - j)) % 256)] := by
  have hj' : j = 0 ∨ j = 1 ∨ j = 2 ∨ j = 3 ∨ j = 4 ∨ j = 5 ∨ j = 6 ∨ j = 7 := by omega
  rcases hj' with rfl | rfl | rfl | rfl | rfl | rfl | rfl | rfl <;> rfl
theorem past_be {w wr w2 : World} {L0 : List UInt8} {C j n : Nat} {v v2 x : Value} {o : Obj} (hP : PaSt w (L0 ++ (be8 C).take j) v wr) (hj : j < 8) (hn : (L0 ++ (be8 C).take j).length = n)
    (h1 : ownsF w2 w.heap.size 5 v2 (n + 1) (vls (L0 ++ (be8 C).take j) ++ [x])) (h2 : (wr.alloc o).grownBy w2 v.ownBlock) (hx : x = .int .u8 ((C / 2 ^ (8 * (7 - j)) % 256 : Nat) : Int)) : PaSt w (L0 ++ (be8 C).take (j + 1)) v2 w2 := by
  rw [be8_snoc C j hj, ← List.append_assoc]
  refine PaSt.app hP (o := o) ?_ h2
  rw [hn]
  rw [hx] at h1
  have e : valB (UInt8.ofNat (C / 2 ^ (8 * (7 - j)) % 256)) = .int .u8 ((C / 2 ^ (8 * (7 - j)) % 256 : Nat) : Int) := by
    unfold valB
    rw [UInt8.toNat_ofNat', Nat.mod_mod]
  rw [e]
  exact h1
theorem past_bytes (w : World) (s : ByteArray) (hs : s.size ≤ maxLen) : PaSt w (ls s) (.slice (some ⟨w.heap.size, 0, none⟩) s.size (grownCap w s.size 0 5)) (Lib.bytesWorld w 5 s) := by
  refine ⟨?_, below_bytes w _ s⟩
  have := ownsF_bytes w w.heap.size 5 s (Nat.le_refl _) hs
  rw [length_ls]
  exact this

theorem size_hs8 (bw : Nat → Nat → W32) (m : Nat) : (hs bw IV m).size = 8 := by
  cases m with
  | zero => rfl
  | succ m => rw [hs]; exact size_blk8 _ _
/-- What stays through the third loop: the list, the table. -/
structure RSSt (w0 : World) (g cap K : Nat) (P : List UInt8) (gk : Nat) (w : World) : Prop where
  own : ownsF w w0.heap.size 5 (.slice (some ⟨g, 0, none⟩) (64 * K) cap) (64 * K) (vls P)
  kt : w.heap[gk]? = some (.cells (rowW KT) 25 (0, 0))
  bel : Below w0.heap.size w0 w
theorem RSSt.on {w0 w w' : World} {g cap K : Nat} {P : List UInt8} {gk : Nat} (h : RSSt w0 g cap K P gk w) (hb : Below w.heap.size w w') : RSSt w0 g cap K P gk w' :=
  ⟨h.own.on hb, (hb.block _ (Array.getElem?_eq_some_iff.1 h.kt).1).trans h.kt, h.bel.trans (hb.mono h.bel.size)⟩
set_option maxRecDepth 1000000 in
set_option maxHeartbeats 2000000 in
theorem rsum_any (s : ByteArray) (w : World) (hsz : s.size ≤ 100000) :
    Calls Tryd.prog 18 #[.string s] w fun e w' => e = .returned (.string (sumB s)) ∧ Below w.heap.size w w' := by
  obtain ⟨i8, hj0, hy0, hy1, hy2⟩ : ∃ i, Tryd.prog.info? 5 = some i ∧ i.zero = some (.int .u8 0) ∧ i.size = 1 ∧ i.bytes = 1 := ⟨_, rfl, rfl, rfl, rfl⟩
  have sb : (s.size : Int) ≤ 100000 := by omega
  have sn : (0 : Int) ≤ s.size := by omega
  have HSZ := Lib.hid hsz
  have P0 := past_bytes w s (by unfold maxLen; omega)
  have HP0 := Lib.hid P0
  have HA0 := Lib.hid (show ownsF ((Lib.bytesWorld w 5 s).alloc (.cells #[.int .u8 128] 5 (0, 0))) w.heap.size 5 (.slice (some ⟨w.heap.size, 0, none⟩) s.size (grownCap w s.size 0 5)) s.size (vls (ls s)) from by have h9 := P0.own.alloc (.cells #[.int .u8 128] 5 (0, 0)); rwa [length_ls] at h9)
  have HN0 := Lib.hid (show s.size + 1 ≤ 140737488355328 by omega)
  have HC0 := Lib.hid (show ((Lib.bytesWorld w 5 s).alloc (.cells #[.int .u8 128] 5 (0, 0))).cell? ⟨(Lib.bytesWorld w 5 s).heap.size, 0, none⟩ = some (.int .u8 128) from cell_of_row _ _ _ _ _ _ (MapKept.heap_alloc _ _).1)
  have HL0 := Lib.hid (le_alloc (B := w.heap.size) P0.bel.size (.cells #[.int .u8 128] 5 (0, 0)))
  clear hsz P0
  go_enter Tryd.func18, Tryd.ntmps18
  go_wp2_with (first
    | (refine wpList_conv_f rfl (.tmp 14) 9 33 5 rfl s rfl Tryd.underlying9 Tryd.underlying33 Tryd.underlying5 ?_)
    | (at_builtin; refine wpList_append_f _ rfl (.tmp 15) (.tmp 16) 33 rfl w.heap.size 5 i8 (.int .u8 0) Tryd.underlying33 hj0 hy0 hy1 hy2 rfl (.slice (some ⟨w.heap.size, 0, none⟩) s.size (grownCap w s.size 0 5)) s.size (vls (ls s)) rfl HA0.out ⟨(Lib.bytesWorld w 5 s).heap.size, 0, none⟩ 1 (.int .u8 128) rfl HC0.out rfl HN0.out HL0.out ?_))
  intro v1 w1 h1 h2
  have HP1 := Lib.hid (show PaSt w (padJ s 0) v1 w1 from HP0.out.app (x := 128) (by rw [length_ls]; exact h1) h2)
  clear h1 h2 HA0 HN0 HC0 HL0 HP0
  have HZ := Lib.hid (show padZ s.size = (119 - s.size % 64) % 64 from rfl)
  go_wp2_with fail
  go_loopw [4] (fun v wr => ∃ j : Nat, j ≤ padZ s.size ∧ PaSt w (padJ s j) v wr) (fun v _ => 1000000 - (sliceLen v))
  case atStart => exact ⟨0, Nat.zero_le _, HP1.out⟩
  case round =>
    obtain ⟨j, hj, hp⟩ := hrel
    obtain ⟨g, cap, rfl, hnc, hcm, hgl⟩ := hp.own.form
    have HP := Lib.hid hp
    have HJ := Lib.hid hj
    have hle := length_padJ s j
    have HLE := Lib.hid hle
    have hz : padZ s.size < 64 := by unfold padZ; omega
    have hn9 : (padJ s j).length ≤ 100064 := by have := HSZ.out; omega
    generalize hn : (padJ s j).length = n at hle hn9 hnc ⊢
    have HNN := Lib.hid hn
    have HHL := Lib.hid hle
    have hnI : (n : Int) ≤ 100064 := by omega
    have hn0 : (0 : Int) ≤ n := by omega
    clear hp hj hn hle
    by_cases h56 : n % 64 = 56
    · have t1 : ((n : Int) % 64 != 56) = false := by simp; omega
      have hjz : j = padZ s.size := by have := HZ.out; have := HHL.out; have := HJ.out; omega
      have hp3 : PaSt w (padJ s (padZ s.size) ++ (be8 (s.size * 8)).take 0) (.slice (some ⟨g, 0, none⟩) n cap) wr := by
        rw [List.take_zero, List.append_nil, ← hjz, ← HNN.out]; exact HP.out
      have HP3 := Lib.hid hp3
      have HLZ := Lib.hid (length_padJ s (padZ s.size))
      have HPAD := Lib.hid (show padL s = padJ s (padZ s.size) ++ be8 (s.size * 8) from rfl)
      clear hp3 hjz HP HJ HLE HNN HHL h56 hn9 HP1
      generalize padJ s (padZ s.size) = L0 at HP3 HLZ HPAD
      go_wp2_with fail
      clear t1 hnI hn0 hnc hgl
      go_loopw [4, 5] (fun v i wr => ∃ j : Nat, j ≤ 8 ∧ i = .int .i64 (7 - (j : Int)) ∧ PaSt w (L0 ++ (be8 (s.size * 8)).take j) v wr) (fun _ i _ => (intOf i + 1).toNat)
      case atStart => exact ⟨0, Nat.zero_le _, rfl, HP3.out⟩
      case round =>
        obtain ⟨j, hj, rfl, hp⟩ := hrel
        obtain ⟨g, cap, rfl, hnc, hcm, hgl⟩ := hp.own.form
        have HP := Lib.hid hp
        by_cases hj8 : j < 8
        · have HLN := Lib.hid (show (L0 ++ (be8 (s.size * 8)).take j).length ≤ 100080 from by
            rw [List.length_append, List.length_take, HLZ.out, show (be8 (s.size * 8)).length = 8 from rfl]
            have := HSZ.out; have := HZ.out; omega)
          have HPN := Lib.hid (fun v2 w2 x o n (hn : (L0 ++ (be8 (s.size * 8)).take j).length = n) (h1 : ownsF w2 w.heap.size 5 v2 (n + 1) (vls (L0 ++ (be8 (s.size * 8)).take j) ++ [x])) (h2 : (wr.alloc o).grownBy w2 (Value.slice (some ⟨g, 0, none⟩) n cap).ownBlock) (hx : x = .int .u8 ((s.size * 8 / 2 ^ (8 * (7 - j)) % 256 : Nat) : Int)) => past_be hp hj8 hn h1 h2 hx)
          have HBC := Lib.hid (hp.own.alloc)
          have HBL := Lib.hid hp.bel
          clear hp
          generalize hL : L0 ++ (be8 (s.size * 8)).take j = L at *
          have HL := Lib.hid hL
          generalize hn : L.length = n at *
          have HNN := Lib.hid hn
          have hj' : j = 0 ∨ j = 1 ∨ j = 2 ∨ j = 3 ∨ j = 4 ∨ j = 5 ∨ j = 6 ∨ j = 7 := by omega
          have hnI : (n : Int) ≤ 100080 := by have := HLN.out; omega
          have hn0 : (0 : Int) ≤ n := by omega
          have HN1 := Lib.hid (show n + 1 ≤ 140737488355328 by omega)
          clear hj hj8 HP3 hn hL
          rcases hj' with rfl | rfl | rfl | rfl | rfl | rfl | rfl | rfl
          all_goals
            go_wp2_with (at_builtin; refine wpList_append_f _ rfl (.tmp 29) (.tmp 37) 33 rfl w.heap.size 5 i8 (.int .u8 0) Tryd.underlying33 hj0 hy0 hy1 hy2 rfl (.slice (some ⟨g, 0, none⟩) n cap) n (vls L) rfl (HBC.out _) ⟨wr.heap.size, 0, none⟩ 1 _ rfl (cell_new _ _ _) rfl HN1.out (le_alloc HBL.out.size _) ?_)
            intro v2 w2 h1 h2
            have HP2 := Lib.hid (HPN.out v2 w2 _ _ n rfl h1 h2 (by first | rfl | (congr 1; omega)))
            clear h1 h2
            go_wp2_with fail
            go_roundw
            case rel => exact ⟨_, by decide, by go_num, HP2.out⟩
            case measure => simp [intOf]
        · have hq0 : ¬ ((7 - (j : Int)) ≥ 0) := by omega
          have hj8' : j = 8 := by omega
          have hpp : PaSt w (padL s) (.slice (some ⟨g, 0, none⟩) (L0 ++ (be8 (s.size * 8)).take j).length cap) wr := by
            rw [HPAD.out]; rw [hj8'] at hp ⊢; exact hp
          have hll : (L0 ++ (be8 (s.size * 8)).take j).length = (padL s).length := by
            rw [HPAD.out, hj8']; rfl
          obtain ⟨K, hK⟩ : ∃ K, (padL s).length = 64 * K := ⟨(padL s).length / 64, by
            have := size_padB_mod s
            rw [padB, size_bs] at this
            omega⟩
          have hfin : fin s = hs (bwT (padB s)) IV K := by
            rw [← fin_pad s]
            congr 1
            rw [padB, size_bs, hK]; omega
          have hK9 : K ≤ 1600 := by
            have := HZ.out; have := HSZ.out; have := HLZ.out
            have h8 : (padL s).length = L0.length + 8 := by rw [HPAD.out, List.length_append]; rfl
            omega
          rw [hll, hK] at hpp ⊢
          rw [hll, hK] at hnc
          have hown := hpp.own
          rw [hK] at hown
          have HO := Lib.hid hown
          have HB := Lib.hid hpp.bel
          have HF := Lib.hid hfin
          have HKL := Lib.hid hK
          have HBW := Lib.hid (show ∀ m, be (bs (((padL s).drop (64 * m)).take 64)) = bwT (padB s) m from fun m => by
            rw [bwT]
            congr 1
            apply ls_inj
            rw [ls_extract, padB, ls_bs, ls_bs, show 64 * m + 64 - 64 * m = 64 by omega])
          have HSM := Lib.hid (show sumB s = bs (dg (fin s) 8) from rfl)
          generalize padL s = P at HO HKL HBW
          generalize bwT (padB s) = bw at HF HBW
          generalize fin s = F at HF HSM
          clear hll hpp hK hfin hj8' hj HP hown hp HP3 HLZ HPAD HZ HSZ
          go_wp2_with fail
          refine (rounds_any _).mono ?_
          rintro e w1 ⟨rfl, rfl⟩
          go_wp2_with fail
          refine (state_any _).mono ?_
          rintro e w2 ⟨rfl, rfl⟩
          go_wp2_with fail
          have hW2 : RSSt w g cap K P wr.heap.size ((wr.alloc (.cells (rowW KT) 25 (0, 0))).alloc (.cells (rowW IV) 25 (0, 0))) :=
            ⟨(HO.out.alloc _).alloc _, ((MapKept.heap_alloc _ _).2 _ (by rw [World.size_alloc]; omega)).trans (MapKept.heap_alloc wr _).1, below_alloc (below_alloc HB.out _) _⟩
          have hh0 : ((wr.alloc (.cells (rowW KT) 25 (0, 0))).alloc (.cells (rowW IV) 25 (0, 0))).heap[wr.heap.size + 1]? = some (.cells (rowW IV) 25 (0, 0)) := by
            have h9 := (MapKept.heap_alloc (wr.alloc (.cells (rowW KT) 25 (0, 0))) (.cells (rowW IV) 25 (0, 0))).1
            rwa [World.size_alloc] at h9
          generalize wr.heap.size + 1 = gh0 at hh0 ⊢
          generalize wr.heap.size = gk at hW2 hgl ⊢
          generalize (wr.alloc (.cells (rowW KT) 25 (0, 0))).alloc (.cells (rowW IV) 25 (0, 0)) = w2 at hW2 hh0 ⊢
          have HW2 := Lib.hid hW2
          have HH0 := Lib.hid hh0
          clear hW2 hh0 HO HB hgl hq0 hj8
          go_loopw [7, 8] (fun h i wr => ∃ m gh : Nat, m ≤ K ∧ i = .int .i64 (64 * m : Nat) ∧ h = .slice (some ⟨gh, 0, none⟩) 8 8 ∧ wr.heap[gh]? = some (.cells (rowW (hs bw IV m)) 25 (0, 0)) ∧ RSSt w g cap K P gk wr) (fun _ i _ => 200000 - (intOf i).toNat)
          case atStart => exact ⟨0, gh0, Nat.zero_le _, rfl, rfl, HH0.out, HW2.out⟩
          case round =>
            obtain ⟨m, gh, hm, rfl, rfl, hgh, hst⟩ := hrel
            have HST := Lib.hid hst
            have HGH := Lib.hid hgh
            have HM := Lib.hid hm
            clear hst hgh hm HW2 HH0
            by_cases hlt : m < K
            · have m1 : 64 * (m : Int) < 64 * K := by omega
              have m2 : 64 * (m : Int) + 64 ≤ cap := by omega
              have m0 : (0 : Int) ≤ 64 * (m : Int) := by omega
              have m3 : 64 * (m : Int) + 64 ≤ 200000 := by omega
              have HLT := Lib.hid hlt
              obtain ⟨a, ha⟩ : ∃ a, a = 64 * m := ⟨_, rfl⟩
              have a1 : (a : Int) < ((64 * K : Nat) : Int) := by omega
              have a2 : (a : Int) + 64 ≤ cap := by omega
              have a0 : (0 : Int) ≤ a := by omega
              have a3 : (a : Int) + 64 ≤ 200000 := by omega
              have HA := Lib.hid ha
              have hcv := ownsF_conv (P := Tryd.prog) wr w.heap.size 33 9 5 Tryd.underlying33 Tryd.underlying5 Tryd.underlying9 (l := P) HST.out.own a 64 (cap - a) (by omega)
              rw [← ha]
              have HNC := Lib.hid hnc
              generalize hN9 : 64 * K = N at a1 ⊢
              clear m1 m2 m0 m3 hlt ha hnc hcm hN9 hK9 sb sn hz
              have RB := Lib.hid (fun ck ch => rsha_block gk gh ck ch (hs bw IV m) (bs ((P.drop a).take 64)) wr (by
                rw [size_bs, List.length_take, List.length_drop]
                have h7 := HST.out.own.1
                simp only [vls, List.length_map] at h7
                have := HLT.out; have := HA.out
                omega) (fun i hi => by rw [cell_of_row _ _ i _ _ _ HST.out.kt, rowW_get KT i hi]) (fun i hi => by rw [cell_of_row _ _ i _ _ _ HGH.out, rowW_get _ i (by rw [size_hs8]; exact hi)]))
              go_wp2_with fail
              refine (RB.out 64 8).mono ?_
              rintro e w4 ⟨hb4, g4, rfl, hg4, hr4⟩
              have HS4 := Lib.hid (HST.out.on hb4)
              have HR4 := Lib.hid (show w4.heap[g4]? = some (.cells (rowW (hs bw IV (m + 1))) 25 (0, 0)) from by
                rw [hs, ← HBW.out m, ← HA.out]
                exact hr4)
              clear hb4 hg4 hr4 RB hcv
              go_wp2_with fail
              go_roundw
              case rel => exact ⟨m + 1, g4, HLT.out, by have := HA.out; go_num, rfl, HR4.out, HS4.out⟩
              case measure => simp [intOf]; omega
            · have m1 : ¬ (64 * (m : Int) < 64 * K) := by omega
              have hmK : m = K := by have := HM.out; omega
              have hrow := HGH.out
              rw [hmK, ← HF.out] at hrow
              have HR := Lib.hid hrow
              have HB := Lib.hid HST.out.bel
              have HFS := Lib.hid (show F.size = 8 by rw [HF.out]; exact size_hs8 _ _)
              have HCF := Lib.hid (fun w' (hb' : Below wr.heap.size wr w') (i : Nat) (hi : i < 8) => show w'.cell? ⟨gh, i, none⟩ = some (.int .u32 (wv (F.getD i 0))) from by
                have h1 := (hb'.block _ (Array.getElem?_eq_some_iff.1 HR.out).1).trans HR.out
                rw [cell_of_row _ _ i _ _ _ h1, rowW_get F i (by rw [HFS.out]; exact hi)])
              have HGL := Lib.hid (show gh < wr.heap.size from (Array.getElem?_eq_some_iff.1 HR.out).1)
              have m2 : ¬ (((64 * m : Nat) : Int) < ((64 * K : Nat) : Int)) := by omega
              generalize 64 * K = N at m2 ⊢
              generalize 64 * m = mm at m2 ⊢
              clear hmK hrow HST HGH hlt m1 hK9 hnc hcm hz sb sn
              go_wp2_with fail
              obtain ⟨wo, rfl⟩ : ∃ wo : World, wo = wr := ⟨_, rfl⟩
              go_loopw [9, 58] (fun v i wr => ∃ j : Nat, j ≤ 8 ∧ i = .int .i64 j ∧ wr.ownsRow wo.heap.size 5 1 v (4 * j) (vls (dg F j)) ∧ Below wo.heap.size wo wr) (fun _ i _ => 8 - (intOf i).toNat)
              case atStart => exact ⟨0, by omega, rfl, World.ownsRow_nil _ _ _ _, Below.refl _ _⟩
              case round =>
                obtain ⟨j, hj, rfl, hown, hnx⟩ := hrel
                have HOWN := Lib.hid hown
                have HNX := Lib.hid hnx
                clear hown hnx
                by_cases hjN : j < 8
                · have ji : (j : Int) < 8 := by omega
                  have jn : (0 : Int) ≤ j := Int.natCast_nonneg j
                  have cx := HCF.out _ HNX.out j hjN
                  generalize hx : F.getD j 0 = x at cx
                  have HX := Lib.hid hx
                  have HJ8 := Lib.hid hjN
                  have HM := Lib.hid (show 4 * j + 4 ≤ maxLen by unfold maxLen; omega)
                  have HN := Lib.hid (show (4 * j + 4) * 1 ≤ 140737488355328 by omega)
                  clear hx hjN hj
                  have HA0 := Lib.hid (HOWN.out.alloc (.cells #[.int .u8 (wv x / 16777216 % 256)] 5 (0, 0)))
                  have HS0 := Lib.hid (show wo.heap.size ≤ wr.heap.size from HNX.out.size)
                  go_wp2_with (at_builtin; refine wpList_append_own _ rfl (.tmp 62) (.tmp 66) 33 rfl _ 5 i8 (.int .u8 0) 1 1 Tryd.underlying33 hj0 hy0 hy1 hy2 rfl (by decide) _ _ _ rfl HA0.out ⟨wr.heap.size, 0, none⟩ 1 1 [.int .u8 (wv x / 16777216 % 256)] rfl rfl (one_cell wr _ _) (one_one _ rfl) (Nat.le_trans (by omega) HM.out) (Nat.le_trans (by omega) HN.out) (le_alloc HS0.out _) ?_)
                  intro v5 w5 h1 h2 h3
                  have HB1 := Lib.hid (below_app HNX.out _ _ _ _ _ HOWN.out h2)
                  have HO1 := Lib.hid h1
                  clear h1 h2 h3
                  have HA1 := Lib.hid (HO1.out.alloc (.cells #[.int .u8 (wv x / 65536 % 256)] 5 (0, 0)))
                  have HS1 := Lib.hid (show wo.heap.size ≤ w5.heap.size from HB1.out.size)
                  go_wp2_with (at_builtin; refine wpList_append_own _ rfl (.tmp 67) (.tmp 71) 33 rfl _ 5 i8 (.int .u8 0) 1 1 Tryd.underlying33 hj0 hy0 hy1 hy2 rfl (by decide) _ _ _ rfl HA1.out ⟨w5.heap.size, 0, none⟩ 1 1 [.int .u8 (wv x / 65536 % 256)] rfl rfl (one_cell w5 _ _) (one_one _ rfl) (Nat.le_trans (by omega) HM.out) (Nat.le_trans (by omega) HN.out) (le_alloc HS1.out _) ?_)
                  intro v6 w6 h1 h2 h3
                  have HB2 := Lib.hid (below_app HB1.out _ _ _ _ _ HO1.out h2)
                  have HO2 := Lib.hid h1
                  clear h1 h2 h3
                  have HA2 := Lib.hid (HO2.out.alloc (.cells #[.int .u8 (wv x / 256 % 256)] 5 (0, 0)))
                  have HS2 := Lib.hid (show wo.heap.size ≤ w6.heap.size from HB2.out.size)
                  go_wp2_with (at_builtin; refine wpList_append_own _ rfl (.tmp 72) (.tmp 76) 33 rfl _ 5 i8 (.int .u8 0) 1 1 Tryd.underlying33 hj0 hy0 hy1 hy2 rfl (by decide) _ _ _ rfl HA2.out ⟨w6.heap.size, 0, none⟩ 1 1 [.int .u8 (wv x / 256 % 256)] rfl rfl (one_cell w6 _ _) (one_one _ rfl) (Nat.le_trans (by omega) HM.out) (Nat.le_trans (by omega) HN.out) (le_alloc HS2.out _) ?_)
                  intro v7 w7 h1 h2 h3
                  have HB3 := Lib.hid (below_app HB2.out _ _ _ _ _ HO2.out h2)
                  have HO3 := Lib.hid h1
                  clear h1 h2 h3
                  have HA3 := Lib.hid (HO3.out.alloc (.cells #[.int .u8 (wv x % 256)] 5 (0, 0)))
                  have HS3 := Lib.hid (show wo.heap.size ≤ w7.heap.size from HB3.out.size)
                  go_wp2_with (at_builtin; refine wpList_append_own _ rfl (.tmp 77) (.tmp 80) 33 rfl _ 5 i8 (.int .u8 0) 1 1 Tryd.underlying33 hj0 hy0 hy1 hy2 rfl (by decide) _ _ _ rfl HA3.out ⟨w7.heap.size, 0, none⟩ 1 1 [.int .u8 (wv x % 256)] rfl rfl (one_cell w7 _ _) (one_one _ rfl) (Nat.le_trans (by omega) HM.out) (Nat.le_trans (by omega) HN.out) (le_alloc HS3.out _) ?_)
                  intro v8 w8 h1 h2 h3
                  have HB4 := Lib.hid (below_app HB3.out _ _ _ _ _ HO3.out h2)
                  have HO4 := Lib.hid h1
                  clear h1 h2 h3
                  go_wp2_with fail
                  go_roundw
                  case rel =>
                    refine ⟨j + 1, HJ8.out, by go_num, ?_, HB4.out⟩
                    have := HO4.out
                    rw [dg, HX.out, vls, List.map_append, show 4 * (j + 1) = 4 * j + 4 by omega]
                    rw [List.map_cons, List.map_cons, List.map_cons, List.map_cons, List.map_nil, bW_val, bW_val, bW_val, bW_one]
                    exact this
                  case measure => simp [intOf]; omega
                · have ji : ¬ ((j : Int) < 8) := by omega
                  have hj8 : j = 8 := by omega
                  have HO6 := HOWN.out
                  rw [hj8] at HO6
                  obtain ⟨g6, cap6, rfl, _⟩ := HO6.form (by decide)
                  have hcv := conv_out (dg F 8) (4 * 8) (length_dg _ _) HO6
                  rw [← HSM.out] at hcv
                  have HFF := Lib.hid (HB.out.trans (HNX.out.mono HB.out.size))
                  clear HO6 hj8 hjN HOWN HNX
                  go_wp2_with fail
                  go_ret
                  exact ⟨rfl, HFF.out⟩
    · have t1 : ((n : Int) % 64 != 56) = true := by simp; omega
      have HA := Lib.hid (show ownsF (wr.alloc (.cells #[.int .u8 0] 5 (0, 0))) w.heap.size 5 (.slice (some ⟨g, 0, none⟩) n cap) n (vls (padJ s j)) from by have h9 := HP.out.own.alloc (.cells #[.int .u8 0] 5 (0, 0)); rwa [HNN.out] at h9)
      have HN := Lib.hid (show n + 1 ≤ 140737488355328 by omega)
      have HC := Lib.hid (show (wr.alloc (.cells #[.int .u8 0] 5 (0, 0))).cell? ⟨wr.heap.size, 0, none⟩ = some (.int .u8 0) from cell_of_row _ _ _ _ _ _ (MapKept.heap_alloc _ _).1)
      have HL := Lib.hid (le_alloc (B := w.heap.size) HP.out.bel.size (.cells #[.int .u8 0] 5 (0, 0)))
      have hjz : j < padZ s.size := by have := HZ.out; have := HHL.out; have := HJ.out; omega
      have HJZ := Lib.hid hjz
      clear h56 hjz hnc hn9
      go_wp2_with (at_builtin; refine wpList_append_f _ rfl (.tmp 22) (.tmp 23) 33 rfl w.heap.size 5 i8 (.int .u8 0) Tryd.underlying33 hj0 hy0 hy1 hy2 rfl (.slice (some ⟨g, 0, none⟩) n cap) n (vls (padJ s j)) rfl HA.out ⟨wr.heap.size, 0, none⟩ 1 (.int .u8 0) rfl HC.out rfl HN.out HL.out ?_)
      intro v2 w2 h1 h2
      have HP2 := Lib.hid (show PaSt w (padJ s (j + 1)) v2 w2 from by rw [padJ_succ]; exact PaSt.app HP.out (x := 0) (by rw [HNN.out]; exact h1) h2)
      clear h1 h2
      go_wp2_with fail
      go_roundw
      case rel => exact ⟨j + 1, HJZ.out, HP2.out⟩
      case measure =>
        obtain ⟨g2, cap2, rfl, _⟩ := HP2.out.own.form
        rw [padJ_succ, List.length_append, HNN.out]
        simp only [sliceLen, List.length_cons, List.length_nil]
        omega
end Go.Proofs.YtkbfflnjbafamaaDoor
