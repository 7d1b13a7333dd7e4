/-
  mailsackref02.Sum: the walk.
-/
import Derived.Test.YtkbfflnjbafamaaDoorMacP
import Derived.Test.YtkbfflnjbafamaaDoorRSum
import Derived.Test.YtkbfflnjbafamaaDoorBQ
import Derived.Deep.DeepCutAuto
namespace Go.Proofs.YtkbfflnjbafamaaDoor
open Go.RowKit MS

/-- The first j bytes of a block: the key's, each turned by b; noughts behind. -/
def mkJ (k : List UInt8) (b : UInt8) (j : Nat) : List UInt8 := (List.range 64).map fun i => if i < j then k.getD i 0 ^^^ b else 0
theorem length_mkJ (k : List UInt8) (b : UInt8) (j : Nat) : (mkJ k b j).length = 64 := by simp [mkJ]
theorem mkJ_zero (k : List UInt8) (b : UInt8) : mkJ k b 0 = List.replicate 64 0 := by rfl
theorem mkJ_all (k : List UInt8) (b : UInt8) : mkJ k b 64 = mkL k b := by
  apply List.ext_getElem?
  intro i
  by_cases h : i < 64
  · simp [mkJ, mkL, h]
  · simp [mkJ, mkL, h]
theorem mkJ_step (k : List UInt8) (b : UInt8) (j : Nat) (hj : j < 64) : (mkJ k b j).set j (k.getD j 0 ^^^ b) = mkJ k b (j + 1) := by
  apply List.ext_getElem?
  intro i
  rw [List.getElem?_set, length_mkJ]
  by_cases e : j = i
  · subst e; rw [if_pos rfl, if_pos hj]; simp [mkJ, hj]
  · rw [if_neg e]
    by_cases h : i < 64
    · simp [mkJ, h, show (i < j + 1) = (i < j) by apply propext; omega]
    · simp [mkJ, h]
theorem conv_est {g : Nat} {w0 w : World} {L : List UInt8} (h : ESt g w0 L w) (n : Nat) (hn : L.length = n) : (convert 33 9 (.slice (some ⟨g, 0, none⟩) n n)).run Tryd.prog w = .ok (.string (bs L)) w :=
  run_block_to_string w 33 9 5 Tryd.underlying33 Tryd.underlying5 Tryd.underlying9 g n n 5 (0, 0) L (cs := (vls L).toArray) h.ro hn (fun j hj => by simp [vls, valB, hj])
/-- 'make([]byte, n)'. -/
theorem run_zeros (n : Nat) (hn : n ≤ 1000000) (w : World) : (Instr.makeSlice 33 (.int .i64 n) (.int .i64 n)).run Tryd.prog w = .ok (.slice (some ⟨w.heap.size, 0, none⟩) n n) (w.alloc (.cells (vls (List.replicate n 0)).toArray 5 (0, 0))) := by
  obtain ⟨i8, hj0, hy0, hy1, hy2⟩ : ∃ i, Tryd.prog.info? 5 = some i ∧ i.zero = some (.int .u8 0) ∧ i.size = 1 ∧ i.bytes = 1 := ⟨_, rfl, rfl, rfl, rfl⟩
  have hrun := run_make (P := Tryd.prog) w 33 5 i8 (.int .u8 0) Tryd.underlying33 hj0 hy0 .i64 .i64 (n : Int) (n : Int) (by omega) (by omega) (by rw [hy2]; omega) (by omega)
  rw [hy1] at hrun
  simp only [Int.toNat_natCast, Nat.mul_one] at hrun
  have hz : madeCells (Value.int .u8 0).cells n = (vls (List.replicate n 0)).toArray := by
    apply Array.toList_inj.1
    exact zeros_made n
  rw [hz] at hrun
  exact hrun
theorem est_new (w : World) (L : List UInt8) : ESt w.heap.size w L (w.alloc (.cells (vls L).toArray 5 (0, 0))) := ⟨Nat.le_refl _, (MapKept.heap_alloc w _).1, below_alloc (Below.refl _ _) _⟩
theorem ESt.mono {g : Nat} {w0 w1 w : World} {L : List UInt8} (h : ESt g w1 L w) (hb : Below w0.heap.size w0 w1) : ESt g w0 L w := ⟨Nat.le_trans hb.size h.ge, h.ro, hb.trans (h.bel.mono hb.size)⟩
theorem ESt.on {g : Nat} {w0 w w' : World} {L : List UInt8} (h : ESt g w0 L w) (hb : Below w.heap.size w w') : ESt g w0 L w' :=
  ⟨h.ge, (hb.block _ (Array.getElem?_eq_some_iff.1 h.ro).1).trans h.ro, h.bel.trans (hb.mono h.bel.size)⟩

theorem est_two (w : World) (L : List UInt8) : ESt w.heap.size w L ((w.alloc (.cells (vls L).toArray 5 (0, 0))).alloc (.cells (vls L).toArray 5 (0, 0))).drew ∧ ESt (w.heap.size + 1) w L ((w.alloc (.cells (vls L).toArray 5 (0, 0))).alloc (.cells (vls L).toArray 5 (0, 0))).drew := by
  have hb : Below w.heap.size w ((w.alloc (.cells (vls L).toArray 5 (0, 0))).alloc (.cells (vls L).toArray 5 (0, 0))).drew := (below_alloc (below_alloc (Below.refl _ _) _) _).drew
  refine ⟨⟨Nat.le_refl _, ?_, hb⟩, ⟨Nat.le_succ _, ?_, hb⟩⟩
  · exact ((MapKept.heap_alloc _ _).2 _ (by rw [World.size_alloc]; omega)).trans (MapKept.heap_alloc w _).1
  · have := (MapKept.heap_alloc (w.alloc (.cells (vls L).toArray 5 (0, 0))) (.cells (vls L).toArray 5 (0, 0))).1
    rw [World.size_alloc] at this
    exact this
theorem ESt.other {g g' : Nat} {w0 w : World} {L : List UInt8} (h : ESt g w0 L w) (hne : g' ≠ g) (hb : w0.heap.size ≤ g') (i : Nat) (v : Value) : ESt g w0 L (w.setCell ⟨g', i, none⟩ v) :=
  ⟨h.ge, (setCell_other' v (Ne.symm hne)).trans h.ro, below_setCell h.bel hb v⟩

set_option maxRecDepth 1000000 in
set_option maxHeartbeats 2000000 in
theorem rmac_any (k s : ByteArray) (w : World) (hk : k.size ≤ 10000) (hs : s.size ≤ 10000) :
    Calls Tryd.prog 27 #[.string k, .string s] w fun e w' => e = .returned (.string (macB k s)) ∧ Below w.heap.size w w' := by
  have HKK := Lib.hid (show k.size > 64 → ∀ w, Calls Tryd.prog 18 #[.string k] w fun e w' => e = .returned (.string (kB k)) ∧ Below w.heap.size w w' from fun h w => by
    have := rsum_any k w (by omega)
    rwa [show sumB k = kB k by rw [kB, if_pos h]] at this)
  have HKN := Lib.hid (show ¬ k.size > 64 → kB k = k from fun h => by rw [kB, if_neg h])
  have HKS := Lib.hid (size_kB k)
  have S1 := Lib.hid (fun w => rsum_any (bs (mkL (ls (kB k)) 54) ++ s) w (by rw [ByteArray.size_append, size_bs, mkL, List.length_map, List.length_range]; omega))
  have S2 := Lib.hid (fun w => rsum_any (bs (mkL (ls (kB k)) 92) ++ sumB (bs (mkL (ls (kB k)) 54) ++ s)) w (by rw [ByteArray.size_append, size_bs, mkL, List.length_map, List.length_range, size_sumB]; decide))
  have HR := Lib.hid (show sumB (bs (mkL (ls (kB k)) 92) ++ sumB (bs (mkL (ls (kB k)) 54) ++ s)) = macB k s by
    have e : ∀ b t, bs (mkL (ls (kB k)) b) ++ t = maskB (kB k) b t := fun b t => by
      apply ls_inj
      rw [ls_append, maskB, ls_bs, ls_bs]
    rw [e, e]
    rfl)
  have ss : (s.size : Int) ≤ 10000 := by omega
  have z1 : ((bs (mkL (ls (kB k)) 54)).size : Int) + s.size ≤ 10064 := by rw [size_bs, mkL, List.length_map, List.length_range]; omega
  have z2 : ((bs (mkL (ls (kB k)) 92)).size : Int) + ((sumB (bs (mkL (ls (kB k)) 54) ++ s)).size : Int) ≤ 10064 := by rw [size_bs, mkL, List.length_map, List.length_range, size_sumB]; decide
  rw [HR.out] at S2
  generalize macB k s = R at HR S2
  generalize sumB (bs (mkL (ls (kB k)) 54) ++ s) = D1 at S1 S2 z2
  generalize hK : kB k = K at *
  clear hK hs HR
  by_cases h : k.size > 64
  case' pos =>
    have t1 : decide ((k.size : Int) > 64) = true := by simp; omega
    have SK := Lib.hid (HKK.out h)
    clear h HKK HKN hk
    go_enter Tryd.func27, Tryd.ntmps27
    go_wp2_with fail
    refine (SK.out _).mono ?_
    rintro e w1 ⟨rfl, hb1⟩
    have B1 := Lib.hid hb1
    clear hb1 SK
    go_upto_region 3 with fail
  case' neg =>
    have t1 : decide ((k.size : Int) > 64) = false := by simp; omega
    have e := HKN.out h
    subst e
    clear h HKK HKN hk
    obtain ⟨w1, hw1⟩ : ∃ w1 : World, w1 = w := ⟨_, rfl⟩
    have B1 := Lib.hid (show Below w.heap.size w w1 by rw [hw1]; exact Below.refl _ _)
    have HW1 := Lib.hid hw1
    clear hw1
    go_enter Tryd.func27, Tryd.ntmps27
    go_upto_region 3 with fail
    rw [← HW1.out]
  all_goals
    go_cut [5, 6] (fun a b wx => ∃ ga gb : Nat, a = .slice (some ⟨ga, 0, none⟩) 64 64 ∧ b = .slice (some ⟨gb, 0, none⟩) 64 64 ∧ ga ≠ gb ∧ ESt ga w1 (List.replicate 64 0) wx ∧ ESt gb w1 (List.replicate 64 0) wx)
    case first =>
      have hmk := fun w => run_zeros 64 (by decide) w
      rw [show ((64 : Nat) : Int) = 64 from rfl] at hmk
      have E2 := Lib.hid (est_two w1 (List.replicate 64 0))
      generalize (vls (List.replicate 64 0)).toArray = Z at hmk E2
      go_region
      all_goals
        go_wp2_with fail
        go_meet
        first
          | exact ⟨w1.heap.size, w1.heap.size + 1, rfl, rfl, by omega, E2.out.1, E2.out.2⟩
          | exact ⟨w1.heap.size + 1, w1.heap.size, rfl, rfl, by omega, E2.out.2, E2.out.1⟩
    case rest =>
      obtain ⟨ga, gb, rfl, rfl, hne, ha, hb⟩ := hcut
      have HNE := Lib.hid hne
      rw [← mkJ_zero (ls K) 54] at ha
      rw [← mkJ_zero (ls K) 92] at hb
      go_wp2_with fail
      clear hne
      go_loopw [7] (fun i wr => ∃ j : Nat, j ≤ 64 ∧ i = .int .i64 j ∧ ESt ga w1 (mkJ (ls K) 54 j) wr ∧ ESt gb w1 (mkJ (ls K) 92 j) wr) (fun i _ => 64 - (intOf i).toNat)
      case atStart => exact ⟨0, by omega, rfl, ha, hb⟩
      case round =>
        obtain ⟨j, hj, rfl, ea, eb⟩ := hrel
        clear ha hb
        by_cases hlt : j < 64
        · have ji : (j : Int) < 64 := by omega
          have jn : (0 : Int) ≤ j := by omega
          have ca := ea.byte j (by rw [length_mkJ]; exact hlt)
          have fa := frozen_of_row _ ga j _ _ ea.ro
          have cb := eb.byte j (by rw [length_mkJ]; exact hlt)
          have fb := frozen_of_row _ gb j _ _ eb.ro
          have st1 := mkJ_step (ls K) 54 j hlt
          have st2 := mkJ_step (ls K) 92 j hlt
          obtain ⟨x, hx⟩ : ∃ x, (ls K).getD j 0 = x := ⟨_, rfl⟩
          rw [hx] at st1 st2
          obtain ⟨ya, hya⟩ : ∃ y, x ^^^ 54 = y := ⟨_, rfl⟩
          obtain ⟨yb, hyb⟩ : ∃ y, x ^^^ 92 = y := ⟨_, rfl⟩
          rw [hya] at st1
          rw [hyb] at st2
          have xa : bits .xor .u8 (x.toNat : Int) 54 = (ya.toNat : Int) := by
            rw [← hya, show (54 : Int) = ((54 : UInt8).toNat : Int) from rfl, u8_xor_nat _ _ (UInt8.toNat_lt _) (UInt8.toNat_lt _), UInt8.toNat_xor]
          have xb : bits .xor .u8 (x.toNat : Int) 92 = (yb.toNat : Int) := by
            rw [← hyb, show (92 : Int) = ((92 : UInt8).toNat : Int) from rfl, u8_xor_nat _ _ (UInt8.toNat_lt _) (UInt8.toNat_lt _), UInt8.toNat_xor]
          have na := (ea.put j ya).other (Ne.symm HNE.out) eb.ge j (valB yb)
          rw [st1] at na
          have nb := (eb.other HNE.out ea.ge j (valB ya)).put j yb
          rw [st2] at nb
          have NA := Lib.hid na
          have NB := Lib.hid nb
          have HLT := Lib.hid hlt
          have hne := HNE.out
          have hne' := Ne.symm HNE.out
          clear na nb st1 st2 ea eb hlt
          by_cases hk : j < K.size
          case' pos =>
            have ki : (j : Int) < K.size := by omega
            have hgd := ls_get K j hk
            rw [hx] at hgd
            clear hx hya hyb
          case' neg =>
            have ki : ¬ ((j : Int) < K.size) := by omega
            have hx0 : (ls K).getD j 0 = 0 := by rw [List.getD_eq_getElem?_getD, List.getElem?_eq_none (by rw [length_ls]; omega)]; rfl
            rw [hx0] at hx
            subst hx hya hyb
            clear hx0 xa xb
          all_goals
            go_wp2_with fail
            go_roundw
            case rel => exact ⟨j + 1, HLT.out, by go_num, NA.out, NB.out⟩
            case measure => simp [intOf]; omega
        · have ji : ¬ ((j : Int) < 64) := by omega
          have hj64 : j = 64 := by omega
          rw [hj64, mkJ_all] at ea eb
          have CA := Lib.hid (fun (p : BW wr) => conv_est (ea.on p.2) 64 (by rw [mkL, List.length_map, List.length_range]))
          have CB := Lib.hid (fun (p : BW wr) => conv_est (eb.on p.2) 64 (by rw [mkL, List.length_map, List.length_range]))
          have HB := Lib.hid (B1.out.trans (ea.bel.mono B1.out.size))
          clear ea eb hlt hj64 hj
          generalize bs (mkL (ls K) 54) = A1 at *
          generalize bs (mkL (ls K) 92) = A2 at *
          go_wp2_with fail
          have ca := CA.out
          have cb := CB.out
          refine wp_region_below (by kernel_rfl) (by kernel_rfl) ?_
          repeat (go_big_quiet_step (first | (go_at_call_of 18 (Value.string (A1 ++ s)); exact calls_below (S1.out _)) | (go_at_call_of 18 (Value.string (A2 ++ D1)); exact calls_below (S2.out _))))
          refine wpQuiet_nil ?_
          rintro _ ⟨p, rfl⟩
          have HP := Lib.hid p.2
          generalize p.1 = wp at HP ⊢
          go_wp2_with fail
          go_ret
          exact ⟨rfl, HB.out.trans (HP.out.mono HB.out.size)⟩
end Go.Proofs.YtkbfflnjbafamaaDoor
