/-
  Texts of this seat, put together (what is needed of them): SeA, SeB, SeC, SeD, SeE, SeF, SeG, SeJ, SeQ, SeL, SeP.
-/
import Derived.Test.YtfckjilhkdlpfaaGreatDoorSeBaseZ
import Derived.Laws.Rows
import Derived.Shelf.Pu.Clone
import Derived.Deep.DeepCutAuto
import Derived.Laws.AppendOwn
import Derived.OwnWalk
import Derived.Test.YtfckjilhkdlpfaaGreatDoorRows
import Derived.ProofKit
import Derived.LaidMore
import Derived.Stop.Joined
import Derived.Lib.LaidTab
import Derived.Stop.LaidErr

namespace Go.Proofs.YtfckjilhkdlpfaaGreatDoor
open Go.RowKit MS
/-- The classes' cells. -/
def clsA : Array Value := #[.int .i64 128, .int .i64 256, .int .i64 512, .int .i64 704]
structure Cls (w : World) : Prop where
  c0 : ∃ t fr, w.heap[0]? = some (.cells clsA t fr)
theorem Cls.lt {w : World} (h : Cls w) : 0 < w.heap.size := by
  obtain ⟨t, fr, h⟩ := h.c0
  exact (Array.getElem?_eq_some_iff.1 h).1
theorem Cls.on {w w' : World} (h : Cls w) (hb : Below w.heap.size w w') : Cls w' := by
  obtain ⟨t, fr, h0⟩ := h.c0
  exact ⟨t, fr, (hb.block 0 h.lt).trans h0⟩
theorem infoC : (Tryz.prog.info? 91).map (·.size) = some clsA.size := by kernel_rfl
theorem run_index_cls (j : Nat) (hj : j < 4) (c : Nat) (hc : [128, 256, 512, 704][j]? = some c) (w : World) : (Instr.index 91 (.agg clsA) (.int .i64 j)).run Tryz.prog w = .ok (.int .i64 c) w := by
  have hn : (0 : Int) ≤ j ∧ (j : Int) < 4 := by omega
  have hu := Tryz.underlying91
  have hi : (Tryz.prog.info? 3).map (·.size) = some 1 := by kernel_rfl
  have hc' : clsA[j]? = some (.int .i64 c) := by
    have : clsA = ([128, 256, 512, 704].map (fun n : Nat => Value.int .i64 (n : Int))).toArray := rfl
    rw [this, List.getElem?_toArray, List.getElem?_map, hc]
    rfl
  cases hq : Tryz.prog.info? 3 with
  | none => simp [hq] at hi
  | some i =>
    have hs : i.size = 1 := by simpa [hq] using hi
    simp [Instr.index, run_underlying hu, asIntOf, go_sem, sizeOf, typeInfo, hq, hs, hn]
    rw [if_pos hj, hc']
    rfl

set_option maxRecDepth 100000 in
set_option maxHeartbeats 1000000 in
theorem class_any (n : Int) (w : World) (C : Cls w) :
    Calls Tryz.prog 46 #[.int .i64 n] w fun e w' => e = .returned (.int .i64 (clsI n : Nat)) ∧ w = w' := by
  by_cases h0 : n < 0
  · have HR := Lib.hid (clsI_big n (.inl h0))
    rw [HR.out]
    go_enter Tryz.func46, Tryz.ntmps46
    go_wp2_with fail
    go_ret
    exact ⟨rfl, rfl⟩
  · have n0 : ¬ n < 0 := h0
    by_cases h7 : n > 700
    · have HR := Lib.hid (clsI_big n (.inr h7))
      rw [HR.out]
      clear h0
      go_enter Tryz.func46, Tryz.ntmps46
      go_wp2_with fail
      go_ret
      exact ⟨rfl, rfl⟩
    · obtain ⟨m, rfl⟩ : ∃ m : Nat, n = (m : Int) := ⟨n.toNat, by omega⟩
      have hm : m ≤ 700 := by omega
      have HR := Lib.hid (clsI_nat m hm)
      rw [HR.out]
      obtain ⟨t0, fr0, hc⟩ := C.c0
      have HC := Lib.hid hc
      have HI := Lib.hid infoC
      have t7 : ¬ (m : Int) > 700 := by omega
      have m0 : (0 : Int) ≤ (m : Int) := by omega
      obtain ⟨r, hr⟩ : ∃ r, clsN m = r := ⟨_, rfl⟩
      rw [hr]
      have HCL := Lib.hid hr
      have HM := Lib.hid hm
      clear h0 n0 h7 C hc hr hm
      go_enter Tryz.func46, Tryz.ntmps46
      go_wp2_with (with_reducible refine wpList_load_row rfl 91 (.global 0) rfl 0 rfl t0 clsA fr0 _ HC.out Tryz.underlying91 rfl HI.out ?_)
      go_loop [12] (fun i => ∃ j : Nat, j ≤ 4 ∧ i = .int .i64 j ∧ (0 < j → 128 < m + 2) ∧ (1 < j → 256 < m + 2) ∧ (2 < j → 512 < m + 2) ∧ (3 < j → 704 < m + 2)) (fun i => 4 - (intOf i).toNat)
      case atStart => exact ⟨0, by omega, rfl, by omega, by omega, by omega, by omega⟩
      case round =>
        obtain ⟨j, hj, rfl, g0, g1, g2, g3⟩ := hrel
        have r4 : j = 0 ∨ j = 1 ∨ j = 2 ∨ j = 3 ∨ j = 4 := by omega
        have G := Lib.hid (And.intro g0 (And.intro g1 (And.intro g2 g3)))
        have HJ := Lib.hid hj
        clear g0 g1 g2 g3 hj
        by_cases hlt : j < 4
        · obtain ⟨c, hc, hcv⟩ : ∃ c : Nat, [128, 256, 512, 704][j]? = some c ∧ c ≤ 704 := by
            rcases r4 with rfl | rfl | rfl | rfl | rfl
            · exact ⟨128, rfl, by decide⟩
            · exact ⟨256, rfl, by decide⟩
            · exact ⟨512, rfl, by decide⟩
            · exact ⟨704, rfl, by decide⟩
            · omega
          have hix := fun w => run_index_cls j hlt c hc w
          have j1 : (j : Int) < 4 := by omega
          have j0 : (0 : Int) ≤ (j : Int) := by omega
          have HCC := Lib.hid hc
          have HLT := Lib.hid hlt
          by_cases hle : m + 2 ≤ c
          · have t1 : (2 : Int) + (m : Int) ≤ (c : Int) := by omega
            have HRES := Lib.hid (show c = r from by
              rw [← HCL.out]
              obtain ⟨g0, g1, g2, g3⟩ := G.out
              unfold clsN
              rcases r4 with rfl | rfl | rfl | rfl | rfl
              · obtain rfl : 128 = c := Option.some.inj hc
                rw [if_pos (by omega)]
              · obtain rfl : 256 = c := Option.some.inj hc
                rw [if_neg (by omega), if_pos (by omega)]
              · obtain rfl : 512 = c := Option.some.inj hc
                rw [if_neg (by omega), if_neg (by omega), if_pos (by omega)]
              · obtain rfl : 704 = c := Option.some.inj hc
                rw [if_neg (by omega), if_neg (by omega), if_neg (by omega)]
              · omega)
            clear r4 hc hle hlt
            go_wp2_with fail
            go_ret
            exact ⟨by rw [← HRES.out]; rfl, rfl⟩
          · have t1 : ¬ (2 : Int) + (m : Int) ≤ (c : Int) := by omega
            have HG2 := Lib.hid (show (0 < j + 1 → 128 < m + 2) ∧ (1 < j + 1 → 256 < m + 2) ∧ (2 < j + 1 → 512 < m + 2) ∧ (3 < j + 1 → 704 < m + 2) from by
              obtain ⟨g0, g1, g2, g3⟩ := G.out
              rcases r4 with rfl | rfl | rfl | rfl | rfl
              · obtain rfl : 128 = c := Option.some.inj hc
                omega
              · obtain rfl : 256 = c := Option.some.inj hc
                omega
              · obtain rfl : 512 = c := Option.some.inj hc
                omega
              · obtain rfl : 704 = c := Option.some.inj hc
                omega
              · omega)
            clear r4 hc hle hlt
            go_wp2_with fail
            go_round
            case rel => exact ⟨j + 1, HLT.out, by go_num, HG2.out.1, HG2.out.2.1, HG2.out.2.2.1, HG2.out.2.2.2⟩
            case measure => simp [intOf]; have := HLT.out; omega
        · exfalso
          have h4 : j = 4 := by have := HJ.out; omega
          obtain ⟨_, _, _, g3⟩ := G.out
          have := g3 (by omega)
          have := HM.out
          omega

set_option maxRecDepth 100000 in
set_option maxHeartbeats 1000000 in
theorem rclass_any (n : Int) (w : World) :
    Calls Tryz.prog 111 #[.int .i64 n] w fun e w' => e = .returned (.int .i64 (clsI n : Nat)) ∧ w = w' := by
  by_cases h0 : n < 0
  · have HR := Lib.hid (clsI_big n (.inl h0))
    rw [HR.out]
    go_enter Tryz.func111, Tryz.ntmps111
    go_wp2_with fail
    go_ret
    exact ⟨rfl, rfl⟩
  · by_cases h7 : n > 700
    · have HR := Lib.hid (clsI_big n (.inr h7))
      rw [HR.out]
      go_enter Tryz.func111, Tryz.ntmps111
      go_wp2_with fail
      go_ret
      exact ⟨rfl, rfl⟩
    · obtain ⟨m, rfl⟩ : ∃ m : Nat, n = (m : Int) := ⟨n.toNat, by omega⟩
      have hm : m ≤ 700 := by omega
      have HR := Lib.hid (clsI_nat m hm)
      rw [HR.out]
      by_cases h1 : m ≤ 126
      · have t1 : (m : Int) ≤ 126 := by omega
        have H := Lib.hid (show clsN m = 128 by unfold clsN; rw [if_pos h1])
        rw [H.out]
        clear h1 hm
        go_enter Tryz.func111, Tryz.ntmps111
        go_wp2_with fail
        go_ret
        exact ⟨rfl, rfl⟩
      · have t1 : ¬ (m : Int) ≤ 126 := by omega
        by_cases h2 : m ≤ 254
        · have t2 : (m : Int) ≤ 254 := by omega
          have H := Lib.hid (show clsN m = 256 by unfold clsN; rw [if_neg h1, if_pos h2])
          rw [H.out]
          clear h1 h2 hm
          go_enter Tryz.func111, Tryz.ntmps111
          go_wp2_with fail
          go_ret
          exact ⟨rfl, rfl⟩
        · have t2 : ¬ (m : Int) ≤ 254 := by omega
          by_cases h3 : m ≤ 510
          · have t3 : (m : Int) ≤ 510 := by omega
            have H := Lib.hid (show clsN m = 512 by unfold clsN; rw [if_neg h1, if_neg h2, if_pos h3])
            rw [H.out]
            clear h1 h2 h3 hm
            go_enter Tryz.func111, Tryz.ntmps111
            go_wp2_with fail
            go_ret
            exact ⟨rfl, rfl⟩
          · have t3 : ¬ (m : Int) ≤ 510 := by omega
            have H := Lib.hid (show clsN m = 704 by unfold clsN; rw [if_neg h1, if_neg h2, if_neg h3])
            rw [H.out]
            clear h1 h2 h3 hm
            go_enter Tryz.func111, Tryz.ntmps111
            go_wp2_with fail
            go_ret
            exact ⟨rfl, rfl⟩
end Go.Proofs.YtfckjilhkdlpfaaGreatDoor

namespace Go.Proofs.YtfckjilhkdlpfaaGreatDoor
open Go.RowKit MS
def renC : Go.Shelf.Ren := ⟨fun n => if n = 25 then 97 else n, fun n => if n = 37 then 83 else if n = 47 then 152 else if n = 3 then 3 else if n = 4 then 4 else if n = 5 then 5 else if n = 9 then 9 else n, fun n => n⟩
set_option maxRecDepth 100000 in
theorem laysC : LaysPu.n25 Tryz.prog renC := { mixed := by kernel_rfl, f25 := by kernel_rfl, t0 := by kernel_rfl, a0 := fun _ => by kernel_rfl, z0 := fun _ => by kernel_rfl, v0 := fun _ => by kernel_rfl, i0 := by kernel_rfl, t3 := by kernel_rfl, a3 := fun _ => by kernel_rfl, z3 := fun _ => by kernel_rfl, v3 := fun _ => by kernel_rfl, i3 := by kernel_rfl, t4 := by kernel_rfl, a4 := fun _ => by kernel_rfl, z4 := fun _ => by kernel_rfl, v4 := fun _ => by kernel_rfl, i4 := by kernel_rfl, t5 := by kernel_rfl, a5 := fun _ => by kernel_rfl, z5 := fun _ => by kernel_rfl, v5 := fun _ => by kernel_rfl, i5 := by kernel_rfl, t9 := by kernel_rfl, a9 := fun _ => by kernel_rfl, z9 := fun _ => by kernel_rfl, v9 := fun _ => by kernel_rfl, i9 := by kernel_rfl, t37 := by kernel_rfl, a37 := fun _ => by kernel_rfl, z37 := fun _ => by kernel_rfl, v37 := fun _ => by kernel_rfl, i37 := by kernel_rfl, t47 := by kernel_rfl, a47 := fun _ => by kernel_rfl, z47 := fun _ => by kernel_rfl, v47 := fun _ => by kernel_rfl, i47 := by kernel_rfl }
theorem clone_any (s : ByteArray) (w : World) (hs : s.size ≤ 1000000) :
    Calls Tryz.prog 66 #[.string s] w fun e w' => e = .returned (.string s) ∧ Below w.heap.size w w' := by
  have C := Lib.hid (fun w => AnyPu.stringslite_Clone laysC s w (by omega))
  have C2 := Lib.hid (show ∀ w, Calls Tryz.prog 97 #[.string s] w fun e w' => e = .returned (.string s) ∧ Below w.heap.size w w' from C.out)
  go_enter Tryz.func66, Tryz.ntmps66
  go_wp2_with fail
  refine (C2.out _).mono ?_
  rintro e w1 ⟨rfl, hb1⟩
  go_wp2_with fail
  go_ret
  exact ⟨rfl, hb1⟩

theorem pad_row (s : ByteArray) (h : s.size ≤ 700) : ((((List.replicate (clsN s.size) (0 : UInt8)).set 0 (UInt8.ofNat (s.size % 256))).set 1 (UInt8.ofNat (s.size / 256))).take 2 ++ ls s ++ ((((List.replicate (clsN s.size) (0 : UInt8)).set 0 (UInt8.ofNat (s.size % 256))).set 1 (UInt8.ofNat (s.size / 256))).drop (2 + s.size))) = spadL (ls s) := by
  have hl := length_ls s
  have hc := clsN_ge s.size h
  obtain ⟨z, hz⟩ : ∃ z, clsN s.size = z + 2 := ⟨clsN s.size - 2, by omega⟩
  rw [spadL, hl, hz, List.replicate_succ, List.replicate_succ, List.set_cons_zero, List.set_cons_succ, List.set_cons_zero]
  have e1 : ∀ (a b : UInt8) (l : List UInt8), (a :: b :: l).drop (2 + s.size) = l.drop s.size := fun a b l => by rw [Nat.add_comm, List.drop_succ_cons, List.drop_succ_cons]
  rw [e1, List.drop_replicate, List.take_succ_cons, List.take_succ_cons, List.take_zero, Nat.add_sub_cancel]
  simp only [List.cons_append, List.nil_append]
set_option maxRecDepth 100000 in
theorem wpList_copy_mid {w : World} {ops : Array Oper} {rest : List Oper} {o : Oper} {a : Act} {Q : Exit → Act → World → Prop} (hgd : o.guard = none) (d s : Operand)
    (ho : o.op = .call { callee := .builtin .copy, args := #[d, s], argTypes := #[83, 9] })
    (T : TypeId) (g off n dCap : Nat) (L : List UInt8) (str : ByteArray) (hd : a.eval d = .slice (some ⟨g, off, none⟩) n dCap) (hs : a.eval s = .string str)
    (w0 : World) (hg : Bt T g w0 L w) (hle : str.size ≤ n) (hn : off + n ≤ L.length)
    (h : ∀ w', Bt T g w0 (L.take off ++ ls str ++ L.drop (off + str.size)) w' → wpList Tryz.prog ops Q rest (a.put o.dst (goInt str.size)) w') : wpList Tryz.prog ops Q (o :: rest) a w := by
  refine wpList_plain hgd fun K hK => ?_
  have hrun := Lib.run_copy_row_string (P := Tryz.prog) w 83 9 o.type 5 g off n dCap str (vls L).toArray T Tryz.underlying83 (by kernel_rfl) hg.ro hle (by simp [vls]; omega)
  have h' := h (w.setRow g ((vls L).toArray.toList.take off ++ Lib.byteCells str.data.toList ++ (vls L).toArray.toList.drop (off + str.size)).toArray) (by
    refine ⟨hg.ge, ?_, below_setRow hg.bel hg.ge _⟩
    rw [setRow_heap w g _ _ _ _ hg.ro]
    congr 2
    apply Array.toList_inj.1
    simp [vls, Lib.byteCells, ls, valB, List.map_take, List.map_drop])
  generalize (w.setRow g _) = w' at hrun h'
  unfold Oper.wp
  simp [execOp, ho, resolve, invoke, builtin, hd, hs, hrun, Result.andThen]
  exact hK _ _ h'

set_option maxRecDepth 100000 in
set_option maxHeartbeats 1000000 in
theorem pad_yes (s : ByteArray) (w : World) (C : Cls w) (hs : s.size ≤ 700) :
    Calls Tryz.prog 43 #[.string s] w fun e w' => e = .returned (.tuple #[.string (spadB s), .int .i64 0]) ∧ Below w.heap.size w w' := by
  have K := Lib.hid (class_any (s.size : Int) w C)
  rw [clsI_nat _ hs] at K
  have HROW := Lib.hid (pad_row s hs)
  have HP := Lib.hid (show spadB s = bs (spadL (ls s)) from rfl)
  have HPL := Lib.hid (show (spadL (ls s)).length = clsN s.size by rw [length_spadL _ (by rw [length_ls]; exact hs), length_ls])
  have hge := clsN_ge s.size hs
  have hle := clsN_le s.size
  have hgt : 128 ≤ clsN s.size := by rcases clsN_cases s.size with h | h | h | h <;> omega
  obtain ⟨c, hc⟩ : ∃ c, clsN s.size = c := ⟨_, rfl⟩
  rw [hc] at K HROW HPL hge hle hgt
  rw [HP.out]
  have s1 : (s.size : Int) ≤ 700 := by omega
  have s0 : (0 : Int) ≤ (s.size : Int) := by omega
  have c1 : ((c : Int) == 0) = false := beq_eq_false_iff_ne.2 (by omega)
  have c2 : (c : Int) ≤ 704 := by omega
  have c3 : (2 : Int) < (c : Int) := by omega
  have c4 : (0 : Int) < (c : Int) := by omega
  have c5 : (1 : Int) < (c : Int) := by omega
  have HGE := Lib.hid hge
  have HB := Lib.hid (show c ≤ 1000000 by omega)
  generalize spadL (ls s) = PL at *
  have HV0 := Lib.hid (show valB (UInt8.ofNat (s.size % 256)) = .int .u8 ((s.size : Int) % 256) by rw [valB, UInt8.toNat_ofNat', show s.size % 256 % 2 ^ 8 = s.size % 256 by omega]; rfl)
  have HV1 := Lib.hid (show valB (UInt8.ofNat (s.size / 256)) = .int .u8 ((s.size : Int) / 256) by rw [valB, UInt8.toNat_ofNat', show s.size / 256 % 2 ^ 8 = s.size / 256 by omega]; rfl)
  clear hs hc hge hle hgt HP
  go_enter Tryz.func43, Tryz.ntmps43
  go_wp2_with fail
  refine K.out.mono ?_
  rintro e w1 ⟨rfl, rfl⟩
  have B0 := Lib.hid (Bt.made (T := 5) (Below.refl w.heap.size w) (List.replicate c 0))
  go_upto_region 5 with (refine wpList_make_u8 rfl (.tmp 11) (.tmp 11) rfl c rfl rfl HB.out ?_)
  generalize w.alloc (.cells (vls (List.replicate c 0)).toArray 5 (0, 0)) = w1 at B0 ⊢
  generalize hA : w.heap.size = g at B0 ⊢
  have HA := Lib.hid hA
  clear hA
  have k0 := B0.out.cell 0 (by have := HGE.out; simp; omega)
  have f0 := B0.out.free 0
  have p0 := B0.out.put 0 (UInt8.ofNat (s.size % 256))
  have k1 := p0.cell 1 (by have := HGE.out; simp; omega)
  have f1 := p0.free 1
  have p1 := p0.put 1 (UInt8.ofNat (s.size / 256))
  rw [HV0.out] at p1 k1 f1
  rw [HV1.out] at p1
  have P1 := Lib.hid p1
  clear p0 p1
  go_upto_region 6 with fail
  generalize World.setCell _ ⟨g, 1, none⟩ _ = w3 at P1 ⊢
  clear k0 k1 f0 f1
  have HLN := Lib.hid (show (((List.replicate c (0 : UInt8)).set 0 (UInt8.ofNat (s.size % 256))).set 1 (UInt8.ofNat (s.size / 256))).length = c by simp)
  generalize ((List.replicate c (0 : UInt8)).set 0 (UInt8.ofNat (s.size % 256))).set 1 (UInt8.ofNat (s.size / 256)) = L at *
  have HSN := Lib.hid (show s.size ≤ c - 2 by have := HGE.out; omega)
  have HOF := Lib.hid (show 2 + (c - 2) ≤ L.length by rw [HLN.out]; have := HGE.out; omega)
  have c6 : (c : Int) - 2 = ((c - 2 : Nat) : Int) := by have := HGE.out; omega
  go_wp2_with (refine wpList_copy_mid rfl (.tmp 25) (.tmp 26) rfl 5 g 2 (c - 2) (c - 2) L s rfl rfl w P1.out HSN.out HOF.out ?_)
  intro w4 h4
  rw [← List.append_assoc, HROW.out] at h4
  have B4 := Lib.hid h4
  have hcv := h4.conv c c HPL.out
  clear h4
  go_wp2_with fail
  go_ret2
  exact ⟨rfl, B4.out.bel⟩
end Go.Proofs.YtfckjilhkdlpfaaGreatDoor

namespace Go.Proofs.YtfckjilhkdlpfaaGreatDoor
open Go.RowKit MS
/-- What Unpad hands back. -/
def unpadV : Option ByteArray → Value
  | some t => .tuple #[.string t, .int .i64 0]
  | none => .tuple #[.string ⟨#[]⟩, .int .i64 3]
theorem ofInt_i64S (a : Nat) (ha : a < 9223372036854775808) : (BitVec.ofInt 64 (a : Int)).toNat = a := by
  rw [BitVec.ofInt_natCast, BitVec.toNat_ofNat]; exact Nat.mod_eq_of_lt (by omega)
theorem i64_or_natS (a b : Nat) (ha : a < 9223372036854775808) (hb : b < 9223372036854775808) : bits .or .i64 (a : Int) (b : Int) = ((a ||| b : Nat) : Int) := by
  have hx : a ||| b < 2 ^ 63 := Nat.or_lt_two_pow (by omega) (by omega)
  show IntKind.i64.wrap ((BitVec.ofInt 64 (a : Int) ||| BitVec.ofInt 64 (b : Int)).toNat : Int) = _
  rw [BitVec.toNat_or, ofInt_i64S a ha, ofInt_i64S b hb, IntKind.wrap_i64]
  omega
theorem wrap64_in (n : Int) (h : -9223372036854775808 ≤ n ∧ n < 9223372036854775808) : wrap64 n = n := by unfold wrap64; omega
theorem len_bits (s : ByteArray) (h0 : 0 < s.size) (h1 : 1 < s.size) :
    bits .or .i64 (wrap64 (s[0]'h0).toNat) (wrap64 (wrap64 ((s[1]'h1).toNat : Int) * 256)) = ((lenB s : Nat) : Int) := by
  have b0 := (s[0]'h0).toNat_lt
  have b1 := (s[1]'h1).toNat_lt
  rw [lenB, ← ls_get s 0 h0, ← ls_get s 1 h1]
  generalize (s[0]'h0).toNat = a at *
  generalize (s[1]'h1).toNat = b at *
  have w0 : wrap64 (a : Int) = (a : Int) := wrap64_in _ (by omega)
  have w1 : wrap64 (b : Int) = (b : Int) := wrap64_in _ (by omega)
  have w2 : wrap64 ((b : Int) * 256) = ((b * 256 : Nat) : Int) := by rw [show ((b * 256 : Nat) : Int) = (b : Int) * 256 by omega]; exact wrap64_in _ (by omega)
  rw [w0, w1, w2, i64_or_natS _ _ (by omega) (by omega)]
  have := Nat.shiftLeft_add_eq_or_of_lt (b := a) (i := 8) (by omega) b
  rw [Nat.or_comm, show b * 256 = b <<< 8 by rw [Nat.shiftLeft_eq], ← this, Nat.shiftLeft_eq]
  omega
theorem rest_all (l : List UInt8) (m : Nat) (hm : l.length = m) (h : l.take m = List.replicate m 0) : l = List.replicate m 0 := by
  rw [← h, List.take_of_length_le (by omega)]

set_option maxRecDepth 100000 in
set_option maxHeartbeats 1000000 in
theorem unpad_any (s : ByteArray) (w : World) (C : Cls w) (hs : s.size ≤ 100000) :
    Calls Tryz.prog 44 #[.string s] w fun e w' => e = .returned (unpadV (unpadB s)) ∧ Below w.heap.size w w' := by
  by_cases h2 : s.size < 2
  · have HR := Lib.hid (show unpadB s = none by rw [unpadB, if_pos (.inl h2)])
    rw [HR.out]
    have s1 : (s.size : Int) < 2 := by omega
    clear h2 hs
    go_enter Tryz.func44, Tryz.ntmps44
    go_wp2_with fail
    go_ret2
    exact ⟨rfl, Below.refl _ _⟩
  · have h0 : 0 < s.size := by omega
    have h1 : 1 < s.size := by omega
    have i0 : (0 : Int) < s.size := by omega
    have i1 : (1 : Int) < s.size := by omega
    have i2 : ¬ (s.size : Int) < 2 := by omega
    have HOR := Lib.hid (len_bits s h0 h1)
    have K := Lib.hid (fun w C => class_any ((lenB s : Nat) : Int) w C)
    have HC := Lib.hid C
    have HU := Lib.hid (show unpadB s = unpadB s from rfl)
    clear C
    go_enter Tryz.func44, Tryz.ntmps44
    go_upto_region 3 with fail
    go_quiet (fail)
    rw [HOR.out]
    have B0 := Lib.hid (below_drewN (Below.refl w.heap.size w) nq)
    have C0 := Lib.hid (HC.out.on B0.out)
    generalize w.drewN nq = w0 at B0 C0 ⊢
    have HL := Lib.hid (show clsI (lenB s : Nat) ≠ s.size → unpadB s = none from fun h => by
      rw [unpadB]
      by_cases h7 : 700 < lenB s
      · rw [if_pos (.inr (.inl h7))]
      · rw [clsI_nat _ (by omega)] at h
        rw [if_pos (.inr (.inr h))])
    have HLE := Lib.hid (show clsI (lenB s : Nat) = s.size → lenB s ≤ 700 ∧ clsN (lenB s) = s.size from fun h => by
      by_cases h7 : 700 < lenB s
      · rw [clsI_big _ (.inr (by omega))] at h
        omega
      · rw [clsI_nat _ (by omega)] at h
        exact ⟨by omega, h⟩)
    clear i2 h2
    obtain ⟨n, hn⟩ : ∃ n, lenB s = n := ⟨_, rfl⟩
    rw [hn] at K HL HLE ⊢
    clear HOR HU
    have HN := Lib.hid hn
    clear hn
    go_wp2_with fail
    refine (K.out _ C0.out).mono ?_
    rintro e w1 ⟨rfl, rfl⟩
    by_cases hc : clsI (n : Nat) = s.size
    · obtain ⟨h7, hcn⟩ := HLE.out hc
      have hge := clsN_ge n h7
      have t1 : ((clsI (n : Nat) : Int) != (s.size : Int)) = false := by rw [hc]; simp
      have HB := Lib.hid (show n + 2 ≤ s.size ∧ n ≤ 700 from ⟨by omega, h7⟩)
      have n0 : (0 : Int) ≤ (n : Int) := by omega
      have e1 : wrap64 (2 + (n : Int)) = ((2 + n : Nat) : Int) := by rw [show ((2 + n : Nat) : Int) = 2 + (n : Int) by omega]; exact wrap64_in _ (by omega)
      have e2 : (2 : Int) ≤ ((2 + n : Nat) : Int) := by omega
      have e3 : ((2 + n : Nat) : Int) ≤ (s.size : Int) := by omega
      have e4 : (s.size : Int) ≤ 100000 := by omega
      have e5 : (0 : Int) ≤ ((2 + n : Nat) : Int) := by omega
      have HCN := Lib.hid hcn
      clear hc hcn hge h7
      go_upto_region 6 with fail
      go_quiet (fail)
      have B1 := Lib.hid (below_drewN B0.out nq)
      generalize w0.drewN nq = w1 at B1 ⊢
      obtain ⟨r, hr⟩ : ∃ r, s.extract (2 + n) s.size = r := ⟨_, rfl⟩
      obtain ⟨t, ht⟩ : ∃ t, s.extract 2 (2 + n) = t := ⟨_, rfl⟩
      have HT := Lib.hid (show t.size ≤ 1000000 by rw [← ht, ByteArray.size_extract]; omega)
      have HM := Lib.hid (show unpadB s = if ls r = List.replicate r.size 0 then some t else none by
        have hz : r.size = s.size - (2 + n) := by rw [← hr, ByteArray.size_extract]; omega
        rw [unpadB, HN.out, if_neg (by have := HB.out; have := HCN.out; omega), hz, ht]
        congr 1
        rw [← hr, ls_extract, List.take_of_length_le (by rw [List.length_drop, length_ls]; omega)])
      have HRS := Lib.hid (show r.size ≤ 100000 by rw [← hr, ByteArray.size_extract]; omega)
      rw [hr, ht]
      clear hr ht e1 e2 e3 e4 e5 n0 t1
      go_wp2_with fail
      have r1 : (r.size : Int) ≤ 100000 := by have := HRS.out; omega
      go_loopw [34] (fun i wr => ∃ j : Nat, j ≤ r.size ∧ i = .int .i64 j ∧ (ls r).take j = List.replicate j 0 ∧ Below w.heap.size w wr) (fun i _ => r.size - (intOf i).toNat)
      case atStart => exact ⟨0, by omega, rfl, rfl, B1.out⟩
      case round =>
        obtain ⟨j, hj, rfl, hz, hb⟩ := hrel
        have HB2 := Lib.hid hb
        have HZ := Lib.hid hz
        clear hb hz
        by_cases hja : j < r.size
        · have ji : (j : Int) < r.size := Int.ofNat_lt.2 hja
          have jn : (0 : Int) ≤ j := Int.natCast_nonneg j
          have HG := Lib.hid (ls_get r j hja)
          by_cases hx : (r[j]'hja).toNat = 0
          · have t1 : (((r[j]'hja).toNat : Int) != 0) = false := by rw [hx]; rfl
            go_wp2_with fail
            go_roundw
            case rel =>
              refine ⟨j + 1, by omega, by go_num, ?_, HB2.out⟩
              have hl := length_ls r
              rw [List.take_add_one, HZ.out, List.replicate_succ', List.getElem?_eq_getElem (by omega)]
              congr 1
              have h1 := HG.out
              rw [List.getD_eq_getElem?_getD, List.getElem?_eq_getElem (by omega), Option.getD_some] at h1
              rw [← h1, show r[j]'hja = 0 from UInt8.toNat_inj.1 hx]
              rfl
            case measure => simp [intOf]; omega
          · have t1 : (((r[j]'hja).toNat : Int) != 0) = true := by simp; omega
            have HR := Lib.hid (show unpadB s = none by
              rw [HM.out, if_neg]
              intro h
              apply hx
              rw [HG.out, h]
              simp [hja])
            clear hx
            go_wp2_with fail
            go_ret2
            exact ⟨by rw [HR.out]; rfl, HB2.out⟩
        · have ji : ¬ ((j : Int) < r.size) := by omega
          have hjj : j = r.size := by omega
          have HR := Lib.hid (show unpadB s = some t by rw [HM.out, if_pos (rest_all _ _ (length_ls r) (hjj ▸ HZ.out))])
          have CL := Lib.hid (fun w => clone_any t w HT.out)
          clear hjj hja
          go_wp2_with fail
          refine (CL.out _).mono ?_
          rintro e w2 ⟨rfl, hb2⟩
          go_wp2_with fail
          go_ret2
          exact ⟨by rw [HR.out]; rfl, HB2.out.trans (hb2.mono HB2.out.size)⟩
    · have HR := Lib.hid (HL.out hc)
      have t1 : ((clsI (n : Nat) : Int) != (s.size : Int)) = true := by simp; omega
      clear hc hs
      go_wp2_with fail
      go_ret2
      exact ⟨by rw [HR.out]; rfl, B0.out⟩
end Go.Proofs.YtfckjilhkdlpfaaGreatDoor

namespace Go.Proofs.YtfckjilhkdlpfaaGreatDoor
open Go.RowKit MS
theorem zeros_appS (l : List UInt8) (k : Nat) : l ++ List.replicate (k + 1) 0 = l ++ List.replicate k 0 ++ [0] := by
  rw [List.append_assoc, ← List.replicate_succ']
theorem below_app2S {w0 wr w' : World} {base : Nat} (hb : Below base w0 wr) (hbase : base ≤ wr.heap.size) (o : Obj) (v : Value) (n : Nat) (e : TypeId) (xs : List Value) (ho : wr.ownsRow base e 1 v n xs) (hg : (wr.alloc o).grownBy w' v.ownBlock) : Below base w0 w' :=
  (hb.alloc hbase o).grown hg (by rw [World.size_alloc]; exact Nat.le_succ_of_le hbase) (fun m hm => (ho.lt m hm).1)
def lenS : Value → Nat
  | .slice _ n _ => n
  | _ => 0

set_option maxRecDepth 100000 in
set_option maxHeartbeats 1000000 in
theorem rpad_any (s : ByteArray) (w : World) (hs : s.size ≤ 700) :
    Calls Tryz.prog 82 #[.string s] w fun e w' => e = .returned (.string (spadB s)) ∧ Below w.heap.size w w' := by
  have K := Lib.hid (fun w => rclass_any (s.size : Int) w)
  rw [clsI_nat _ hs] at K
  have s1 : (s.size : Int) ≤ 700 := by omega
  have s0 : (0 : Int) ≤ (s.size : Int) := by omega
  obtain ⟨i8, hj0, hy0, hy1, hy2⟩ : ∃ i, Tryz.prog.info? 5 = some i ∧ i.zero = some (.int .u8 0) ∧ i.size = 1 ∧ i.bytes = 1 := ⟨_, rfl, rfl, rfl, rfl⟩
  go_enter Tryz.func82, Tryz.ntmps82
  go_upto_region 1 with fail
  go_wp2_with (refine wpList_conv_own rfl (.tmp 13) 9 83 5 rfl s rfl Tryz.underlying9 Tryz.underlying83 Tryz.underlying5 w.heap.size s.size rfl (le_alloc (Nat.le_refl _) _) (by unfold maxLen; omega) ?_)
  intro g1 cap1 w1 hf hb1
  have HA := Lib.hid (show (w.alloc (.cells #[Value.int IntKind.u8 ((s.size : Int) % 256), Value.int IntKind.u8 ((s.size : Int) / 256)] 5 (0, 0))).ownsRow w.heap.size 5 1 (.slice (some ⟨w.heap.size, 0, none⟩) 2 2) 2 [Value.int IntKind.u8 ((s.size : Int) % 256), Value.int IntKind.u8 ((s.size : Int) / 256)] from ⟨rfl, .inr ⟨w.heap.size, 2, _, rfl, Nat.le_refl _, (MapKept.heap_alloc w _).1, Nat.le_refl _, by unfold maxLen; omega, rfl, rfl⟩⟩)
  have HA1 := Lib.hid (ownsRow_on HA.out (hb1.mono (by rw [World.size_alloc]; exact Nat.le_refl _)))
  have HB1 := Lib.hid ((below_alloc (Below.refl w.heap.size w) _).trans (hb1.mono (by omega)))
  have HNEW := Lib.hid (show ∀ j u, (vls (ls s))[j]? = some u → w1.cell? ((⟨g1, 0, none⟩ : Addr).add j) = some u from fun j u hu => by
    have hj : j < s.size := by
      have := (List.getElem?_eq_some_iff.1 hu).1
      simpa [vls, length_ls] using this
    rw [Addr.add_lit, Nat.zero_add, hf.cell j hj]
    exact hu)
  have HS1 := Lib.hid (show w.heap.size ≤ w1.heap.size from HB1.out.size)
  have HLEN := Lib.hid (show (vls (ls s)).length = s.size * 1 by simp [vls, length_ls])
  have HONE := Lib.hid (show ∀ u ∈ vls (ls s), u.oneCell' = true from fun u hu => by
    simp only [vls, List.mem_map] at hu
    obtain ⟨b, _, rfl⟩ := hu
    rfl)
  have HM1 := Lib.hid (show 2 + s.size ≤ maxLen by unfold maxLen; omega)
  have HM2 := Lib.hid (show (2 + s.size) * 1 ≤ 140737488355328 by omega)
  have HV0 := Lib.hid (show valB (UInt8.ofNat (s.size % 256)) = .int .u8 ((s.size : Int) % 256) by rw [valB, UInt8.toNat_ofNat', show s.size % 256 % 2 ^ 8 = s.size % 256 by omega]; rfl)
  have HV1 := Lib.hid (show valB (UInt8.ofNat (s.size / 256)) = .int .u8 ((s.size : Int) / 256) by rw [valB, UInt8.toNat_ofNat', show s.size / 256 % 2 ^ 8 = s.size / 256 by omega]; rfl)
  have HSP := Lib.hid (show ∀ k, k = clsN s.size - 2 - s.size → bs ((UInt8.ofNat (s.size % 256) :: UInt8.ofNat (s.size / 256) :: ls s) ++ List.replicate k 0) = spadB s from fun k hk => by rw [spadB, spadL, length_ls, hk]; rfl)
  have hge := clsN_ge s.size hs
  have hle := clsN_le s.size
  generalize UInt8.ofNat (s.size % 256) = x0 at *
  generalize UInt8.ofNat (s.size / 256) = x1 at *
  generalize w.alloc (.cells #[Value.int IntKind.u8 ((s.size : Int) % 256), Value.int IntKind.u8 ((s.size : Int) / 256)] 5 (0, 0)) = w0 at *
  clear hf hb1
  go_wp2_with (at_builtin; refine wpList_append_own _ rfl (.tmp 12) (.tmp 14) 83 rfl _ 5 i8 (.int .u8 0) 1 1 Tryz.underlying83 hj0 hy0 hy1 hy2 rfl (by decide) _ _ _ rfl HA1.out ⟨g1, 0, none⟩ s.size cap1 (vls (ls s)) rfl HLEN.out HNEW.out HONE.out HM1.out HM2.out HS1.out ?_)
  intro v2 w2 h1 h2 h3
  have HB2 := Lib.hid (HB1.out.grown h2 HS1.out (fun m hm => (HA1.out.lt m hm).1))
  have HO2 := Lib.hid (show w2.ownsRow w.heap.size 5 1 v2 (2 + s.size + 0) (vls ((x0 :: x1 :: ls s) ++ List.replicate 0 0)) from by
    rw [List.replicate_zero, List.append_nil, Nat.add_zero]
    have e : vls (x0 :: x1 :: ls s) = [Value.int IntKind.u8 ((s.size : Int) % 256), Value.int IntKind.u8 ((s.size : Int) / 256)] ++ vls (ls s) := by rw [← HV0.out, ← HV1.out]; rfl
    rw [e]; exact h1)
  clear h1 h2 h3
  obtain ⟨c, hc⟩ : ∃ c, clsN s.size = c := ⟨_, rfl⟩
  rw [hc] at K HSP hge hle
  have HGE := Lib.hid hge
  have HLE := Lib.hid hle
  have HLL := Lib.hid (length_ls s)
  clear hc hge hle hs HNEW HLEN HONE HA HA1 HB1 HM1 HM2 HV0 HV1 HS1 s1 s0
  go_wp2_with fail
  go_loopw [3] (fun x wr => ∃ k : Nat, 2 + s.size + k ≤ c ∧ wr.ownsRow w.heap.size 5 1 x (2 + s.size + k) (vls ((x0 :: x1 :: ls s) ++ List.replicate k 0)) ∧ Below w.heap.size w wr) (fun x _ => c - lenS x)
  case atStart => exact ⟨0, by have := HGE.out; omega, HO2.out, HB2.out⟩
  case round =>
    obtain ⟨k, hk, ho, hb⟩ := hrel
    obtain ⟨g, cap, rfl, _⟩ := ho.form (by omega)
    have HO := Lib.hid ho
    have HB := Lib.hid hb
    have hs0 : w.heap.size ≤ wr.heap.size := hb.size
    clear ho hb
    obtain ⟨q, hq⟩ : ∃ q, 2 + s.size + k = q := ⟨_, rfl⟩
    rw [hq] at HO hk ⊢
    have HQ := Lib.hid hq
    by_cases hlt : q < c
    · have HLT := Lib.hid hlt
      have m1 : (q : Int) < (c : Int) := by omega
      have HML := Lib.hid (show q + 1 ≤ maxLen by have := HLE.out; unfold maxLen; omega)
      have HMB := Lib.hid (show (q + 1) * 1 ≤ 140737488355328 by have := HLE.out; omega)
      have HAL := Lib.hid (HO.out.alloc (.cells #[.int .u8 0] 5 (0, 0)))
      clear hlt hq hk
      go_wp2_with fail
      refine (K.out _).mono ?_
      rintro e w3 ⟨rfl, rfl⟩
      go_wp2_with (at_builtin; refine wpList_append_own _ rfl (.tmp 22) (.tmp 23) 83 rfl _ 5 i8 (.int .u8 0) 1 1 Tryz.underlying83 hj0 hy0 hy1 hy2 rfl (by decide) _ _ _ rfl HAL.out ⟨wr.heap.size, 0, none⟩ 1 1 [.int .u8 0] rfl rfl (one_cell wr _ _) (one_one _ rfl) HML.out HMB.out (le_alloc hs0 _) ?_)
      intro v1 w1 h1 h2 h3
      have HB1 := Lib.hid (below_app2S HB.out hs0 _ _ _ _ _ HO.out h2)
      have HO1 := Lib.hid (show w1.ownsRow w.heap.size 5 1 v1 (2 + s.size + (k + 1)) (vls ((x0 :: x1 :: ls s) ++ List.replicate (k + 1) 0)) from by rw [zeros_appS, vls_app, ← Nat.add_assoc, HQ.out]; exact h1)
      have HLEN := Lib.hid (show lenS v1 = q + 1 from by
        obtain ⟨g, cap, e, _⟩ := h1.form (by omega)
        rw [e]; rfl)
      clear h1 h2 h3 hs0
      go_wp2_with fail
      go_roundw
      case rel => exact ⟨k + 1, by have := HLT.out; have := HQ.out; omega, HO1.out, HB1.out⟩
      case measure => rw [HLEN.out]; show c - (q + 1) < c - q; have := HLT.out; omega
    · have m1 : ¬ (q : Int) < (c : Int) := by omega
      have hqc : q = c := by omega
      have HF := Lib.hid (HSP.out k (by omega))
      have hcv := conv_pre _ q (by simp [HLL.out]; omega) (Nat.le_refl _) HO.out
      rw [List.take_of_length_le (by simp [HLL.out]; omega), HF.out] at hcv
      clear hlt hq hk hqc
      go_wp2_with fail
      refine (K.out _).mono ?_
      rintro e w3 ⟨rfl, rfl⟩
      go_wp2_with fail
      go_ret
      exact ⟨rfl, HB.out⟩
end Go.Proofs.YtfckjilhkdlpfaaGreatDoor

namespace Go.Proofs.YtfckjilhkdlpfaaGreatDoor
open Go.RowKit MS
/-- What the reference's Unpad hands back. -/
def runpadV : Option ByteArray → Value
  | some t => .tuple #[.string t, .bool true]
  | none => .tuple #[.string ⟨#[]⟩, .bool false]
theorem toList_neS {a b : ByteArray} (h : a ≠ b) : (a.toList == b.toList) = false := by
  rw [beq_eq_false_iff_ne]
  intro e
  apply h
  apply ls_inj
  rw [ByteArray.toList_eq, ByteArray.toList_eq] at e
  exact e
theorem len_bitsR (s : ByteArray) (h0 : 0 < s.size) (h1 : 1 < s.size) :
    wrap64 (wrap64 ((s[0]'h0).toNat : Int) + wrap64 ((256 : Int) * wrap64 ((s[1]'h1).toNat : Int))) = ((lenB s : Nat) : Int) := by
  have b0 := (s[0]'h0).toNat_lt
  have b1 := (s[1]'h1).toNat_lt
  rw [lenB, ← ls_get s 0 h0, ← ls_get s 1 h1]
  unfold wrap64
  omega

set_option maxRecDepth 100000 in
set_option maxHeartbeats 1000000 in
theorem runpad_any (s : ByteArray) (w : World) (hs : s.size ≤ 100000) :
    Calls Tryz.prog 52 #[.string s] w fun e w' => e = .returned (runpadV (unpadB s)) ∧ Below w.heap.size w w' := by
  by_cases h2 : s.size < 2
  · have HR := Lib.hid (show unpadB s = none by rw [unpadB, if_pos (.inl h2)])
    rw [HR.out]
    have s1 : (s.size : Int) < 2 := by omega
    clear h2 hs
    go_enter Tryz.func52, Tryz.ntmps52
    go_wp2_with fail
    go_ret2
    exact ⟨rfl, Below.refl _ _⟩
  · have h0 : 0 < s.size := by omega
    have h1 : 1 < s.size := by omega
    have i0 : (0 : Int) < s.size := by omega
    have i1 : (1 : Int) < s.size := by omega
    have i2 : ¬ (s.size : Int) < 2 := by omega
    have HOR := Lib.hid (len_bitsR s h0 h1)
    have H2 := Lib.hid h2
    go_enter Tryz.func52, Tryz.ntmps52
    go_upto_region 3 with fail
    go_quiet (fail)
    rw [HOR.out]
    have B0 := Lib.hid (below_drewN (Below.refl w.heap.size w) nq)
    generalize w.drewN nq = w0 at B0 ⊢
    clear i2 h2
    obtain ⟨n, hn⟩ : ∃ n, lenB s = n := ⟨_, rfl⟩
    rw [hn]
    clear HOR
    have HN := Lib.hid hn
    clear hn
    by_cases h7 : 700 < n
    · have HR := Lib.hid (show unpadB s = none by rw [unpadB, HN.out, if_pos (.inr (.inl h7))])
      have m1 : (n : Int) > 700 := by omega
      clear h7
      go_wp2_with fail
      go_ret2
      exact ⟨by rw [HR.out]; rfl, B0.out⟩
    · have m1 : ¬ (n : Int) > 700 := by omega
      have m0 : (0 : Int) ≤ (n : Int) := by omega
      by_cases h3 : n + 2 > s.size
      · have HR := Lib.hid (show unpadB s = none by
          have := clsN_ge n (by omega)
          rw [unpadB, HN.out, if_pos (.inr (.inr (by omega)))])
        have m2 : (n : Int) + 2 > (s.size : Int) := by omega
        clear h7 h3
        go_wp2_with fail
        go_ret2
        exact ⟨by rw [HR.out]; rfl, B0.out⟩
      · have m2 : ¬ (n : Int) + 2 > (s.size : Int) := by omega
        have m3 : (2 : Int) + (n : Int) ≤ (s.size : Int) := by omega
        have m4 : (2 : Int) ≤ (2 : Int) + (n : Int) := by omega
        have m5 : (s.size : Int) ≤ 100000 := by omega
        have HT := Lib.hid (show (2 + (n : Int)).toNat = 2 + n by omega)
        have HE : s.extract 2 (2 + (n : Int)).toNat = s.extract 2 (2 + n) := by rw [HT.out]
        have hsz : (s.extract 2 (2 + n)).size ≤ 700 := by rw [ByteArray.size_extract]; omega
        have K := Lib.hid (fun w => rpad_any (s.extract 2 (2 + n)) w hsz)
        have HU := Lib.hid (unpad_some s n HN.out.symm (by omega) (by omega))
        by_cases he : spadB (s.extract 2 (2 + n)) = s
        · have HR := Lib.hid (show unpadB s = some (s.extract 2 (2 + n)) by
            obtain ⟨a, b⟩ := HU.out.1 he
            rw [unpadB, HN.out, if_neg (by omega), if_pos b])
          rw [he] at K
          generalize s.extract 2 (2 + n) = t at *
          clear h7 h3 hs he hsz
          go_wp2_with fail
          refine (K.out _).mono ?_
          rintro e w1 ⟨rfl, hb1⟩
          have B1 := Lib.hid (B0.out.trans (hb1.mono B0.out.size))
          clear hb1
          go_wp2_with fail
          go_ret2
          exact ⟨by rw [HR.out]; rfl, B1.out⟩
        · have HR := Lib.hid (show unpadB s = none by
            rw [unpadB, HN.out]
            by_cases hc : clsN n ≠ s.size
            · rw [if_pos (.inr (.inr hc))]
            · rw [if_neg (by omega), if_neg]
              exact fun h => he (HU.out.2 ⟨by omega, h⟩))
          have m6 := toList_neS he
          generalize spadB (s.extract 2 (2 + n)) = x at *
          generalize s.extract 2 (2 + n) = t at *
          clear h7 h3 hs he hsz
          go_wp2_with fail
          refine (K.out _).mono ?_
          rintro e w1 ⟨rfl, hb1⟩
          have B1 := Lib.hid (B0.out.trans (hb1.mono B0.out.size))
          clear hb1
          go_wp2_with fail
          go_ret2
          exact ⟨by rw [HR.out]; rfl, B1.out⟩
end Go.Proofs.YtfckjilhkdlpfaaGreatDoor

namespace Go.Proofs.YtfckjilhkdlpfaaGreatDoor
open Go.RowKit MS
/-- Folder 08's awake. -/
def Awk08 : Prop := ∀ w, Cls w → Calls Tryz.prog 21 #[] w fun e w' => e = .returned (.bool true) ∧ Below w.heap.size w w'

end Go.Proofs.YtfckjilhkdlpfaaGreatDoor

namespace Go.Proofs.YtfckjilhkdlpfaaGreatDoor
open Go.RowKit MS
theorem clamp_noS (s : ByteArray) (w : World) (hs : s.size ≠ 32) : Calls Tryz.prog 67 #[.string s] w fun e w' => e = .returned (.tuple #[.string ⟨#[]⟩, .bool false]) ∧ Below w.heap.size w w' := by
  have h1 : ¬ (s.size : Int) = 32 := by omega
  have h2 : ((s.size : Int) != 32) = true := by simp; omega
  clear hs
  go_enter Tryz.func67, Tryz.ntmps67
  go_wp2_with fail
  go_ret2
  exact ⟨rfl, Below.refl _ _⟩
set_option maxRecDepth 1000000 in
set_option maxHeartbeats 1000000 in
theorem point_noS (s u : ByteArray) (w : World) (hs : s.size ≠ 32) : Calls Tryz.prog 47 #[.string s, .string u] w fun e w' => e = .returned (.tuple #[.string ⟨#[]⟩, .bool false]) ∧ Below w.heap.size w w' := by
  have C := Lib.hid (fun w => clamp_noS s w hs)
  clear hs
  go_enter Tryz.func47, Tryz.ntmps47
  go_wp2_with fail
  refine (C.out _).mono ?_
  rintro e w1 ⟨rfl, hb⟩
  have B := Lib.hid hb
  clear hb
  go_wp2_with fail
  go_ret2
  exact ⟨rfl, B.out⟩
set_option maxRecDepth 1000000 in
set_option maxHeartbeats 1000000 in
theorem box_no1 (p o s : ByteArray) (w : World) (ho : o.size ≠ 32) : Calls Tryz.prog 45 #[.string p, .string o, .string s] w fun e w' => e = .returned (.tuple #[.string ⟨#[]⟩, .int .i64 1]) ∧ Below w.heap.size w w' := by
  have C := Lib.hid (fun w => point_noS o p w ho)
  clear ho
  go_enter Tryz.func45, Tryz.ntmps45
  go_wp2_with fail
  refine (C.out _).mono ?_
  rintro e w1 ⟨rfl, hb⟩
  have B := Lib.hid hb
  clear hb
  go_wp2_with fail
  go_ret2
  exact ⟨rfl, B.out⟩

theorem awk_pad : ∃ p t : ByteArray, (∀ w, Cls w → Calls Tryz.prog 43 #[.string ⟨#[109, 97, 105, 108]⟩] w fun e w' => e = .returned (.tuple #[.string p, .int .i64 0]) ∧ Below w.heap.size w w') ∧
    (∀ w, Cls w → Calls Tryz.prog 44 #[.string p] w fun e w' => e = .returned (.tuple #[.string t, .int .i64 0]) ∧ Below w.heap.size w w') ∧ (p.size : Int) = 128 ∧ t.toList = [109, 97, 105, 108] := by
  have hl : (ByteArray.mk #[109, 97, 105, 108]).toList = [109, 97, 105, 108] := by rw [ByteArray.toList_eq]
  have h4 : (ByteArray.mk #[109, 97, 105, 108]).size = 4 := by decide
  generalize ByteArray.mk #[109, 97, 105, 108] = m at *
  have hz : (spadB m).size = 128 := by rw [size_spadB m (by omega), h4, clsN, if_pos (by decide)]
  refine ⟨spadB m, m, fun w C => pad_yes m w C (by omega), fun w C => ?_, by omega, hl⟩
  have U := unpad_any (spadB m) w C (by omega)
  rw [unpad_pad m (by omega)] at U
  exact U
theorem awk_box : ∀ w, Calls Tryz.prog 45 #[.string ⟨#[115, 104, 111, 114, 116]⟩, .string ⟨#[]⟩, .string ⟨#[]⟩] w fun e w' => e = .returned (.tuple #[.string ⟨#[]⟩, .int .i64 1]) ∧ Below w.heap.size w w' :=
  fun w => box_no1 _ _ _ w (by decide)
theorem awk_class : ∀ w, Cls w → Calls Tryz.prog 46 #[.int .i64 127] w fun e w' => e = .returned (.int .i64 256) ∧ w = w' := by
  intro w C
  have K := class_any 127 w C
  rw [show clsI 127 = 256 by rw [clsI, if_neg (by decide), clsN, if_neg (by decide), if_pos (by decide)]] at K
  exact K

set_option maxRecDepth 1000000 in
set_option maxHeartbeats 400000 in
theorem awake08 : Awk08 := by
  intro w C
  obtain ⟨p, t, P0, U0, z1, z2⟩ := awk_pad
  have P := Lib.hid P0
  have U := Lib.hid U0
  have B := Lib.hid awk_box
  have K := Lib.hid awk_class
  have HC := Lib.hid C
  clear P0 U0 C
  go_enter Tryz.func21, Tryz.ntmps21
  go_wp2_with fail
  refine (P.out _ HC.out).mono ?_
  rintro e w1 ⟨rfl, hb1⟩
  have B1 := Lib.hid hb1
  have C1 := Lib.hid (HC.out.on B1.out)
  clear hb1
  go_wp2_with fail
  refine (U.out _ C1.out).mono ?_
  rintro e w2 ⟨rfl, hb2⟩
  have B2 := Lib.hid (B1.out.trans (hb2.mono B1.out.size))
  clear hb2
  go_wp2_with fail
  refine (B.out _).mono ?_
  rintro e w3 ⟨rfl, hb3⟩
  have B3 := Lib.hid (B2.out.trans (hb3.mono B2.out.size))
  have C3 := Lib.hid (HC.out.on B3.out)
  clear hb3
  go_wp2_with fail
  refine (K.out _ C3.out).mono ?_
  rintro e w4 ⟨rfl, rfl⟩
  go_wp2_with fail
  go_ret
  exact ⟨rfl, B3.out⟩
end Go.Proofs.YtfckjilhkdlpfaaGreatDoor

namespace Go.Proofs.YtfckjilhkdlpfaaGreatDoor
open Go.RowKit MS
def mailB : ByteArray := ⟨#[109, 97, 105, 108]⟩
/-- The key and the nonce of a box. -/
def bothB (sec salt : ByteArray) : ByteArray := drawB sec salt mailB 44
theorem size_bothB (sec salt : ByteArray) : (bothB sec salt).size = 44 := size_drawB _ _ _ _

set_option maxRecDepth 1000000 in
set_option maxHeartbeats 1000000 in
theorem derive_any (sec salt : ByteArray) (w : World) (h1 : sec.size ≤ 1000) (h2 : salt.size ≤ 1000) (G : Glob w) :
    Calls Tryz.prog 48 #[.string sec, .string salt] w fun e w' => e = .returned (.tuple #[.string ((bothB sec salt).extract 0 32), .string ((bothB sec salt).extract 32 44), .int .i64 0]) ∧ Below w.heap.size w w' := by
  have HD := Lib.hid (draw_yes sec salt ⟨#[109, 97, 105, 108]⟩ 44 w (by omega) h1 h2 (by decide) G)
  rw [show drawB sec salt ⟨#[109, 97, 105, 108]⟩ 44 = bothB sec salt from rfl] at HD
  have hz := size_bothB sec salt
  generalize bothB sec salt = b at *
  have z1 : (b.size : Int) = 44 := by omega
  have z2 : (32 : Int) ≤ (b.size : Int) := by omega
  have HZ := Lib.hid hz
  clear h1 h2 G hz
  go_enter Tryz.func48, Tryz.ntmps48
  go_wp2_with fail
  refine HD.out.mono ?_
  rintro e w1 ⟨rfl, hb⟩
  have B := Lib.hid hb
  clear hb
  go_wp2_with fail
  go_quiet (fail)
  have B1 := Lib.hid (below_drewN B.out nq)
  generalize w1.drewN nq = w2 at B1 ⊢
  rw [HZ.out]
  go_wp2_with fail
  go_ret3
  exact ⟨rfl, B1.out⟩
set_option maxRecDepth 1000000 in
set_option maxHeartbeats 1000000 in
theorem rkeys_any (sec own pub : ByteArray) (w : World) (h1 : sec.size ≤ 1000) (h2 : own.size ≤ 400) (h3 : pub.size ≤ 400) :
    Calls Tryz.prog 49 #[.string sec, .string own, .string pub] w fun e w' => e = .returned (.tuple #[.string ((bothB sec (own ++ pub)).extract 0 32), .string ((bothB sec (own ++ pub)).extract 32 44)]) ∧ Below w.heap.size w w' := by
  have HD := Lib.hid (rdraw_any sec (own ++ pub) ⟨#[109, 97, 105, 108]⟩ 44 w (by omega) h1 (by rw [ByteArray.size_append]; omega) (by decide))
  rw [show drawB sec (own ++ pub) ⟨#[109, 97, 105, 108]⟩ 44 = bothB sec (own ++ pub) from rfl] at HD
  have hz := size_bothB sec (own ++ pub)
  generalize bothB sec (own ++ pub) = b at *
  have z1 : (b.size : Int) = 44 := by omega
  have z2 : (32 : Int) ≤ (b.size : Int) := by omega
  have HZ := Lib.hid hz
  have o1 : (own.size : Int) ≤ 400 := by omega
  have o2 : (pub.size : Int) ≤ 400 := by omega
  clear h1 h2 h3 hz
  go_enter Tryz.func49, Tryz.ntmps49
  go_wp2_with fail
  refine HD.out.mono ?_
  rintro e w1 ⟨rfl, hb⟩
  have B := Lib.hid hb
  clear hb
  go_wp2_with fail
  go_quiet (fail)
  have B1 := Lib.hid (below_drewN B.out nq)
  generalize w1.drewN nq = w2 at B1 ⊢
  rw [HZ.out]
  go_wp2_with fail
  go_ret2
  exact ⟨rfl, B1.out⟩
set_option maxRecDepth 1000000 in
set_option maxHeartbeats 1000000 in
theorem rbase_any (w : World) : Calls Tryz.prog 51 #[] w fun e w' => e = .returned (.string baseB) ∧ Below w.heap.size w w' := by
  have b0 := Bt.made (T := 5) (Below.refl w.heap.size w) (List.replicate 32 0)
  obtain ⟨w1, hw1⟩ : ∃ w1, w.alloc (.cells (vls (List.replicate 32 0)).toArray 5 (0, 0)) = w1 := ⟨_, rfl⟩
  obtain ⟨g, hg⟩ : ∃ g, w.heap.size = g := ⟨_, rfl⟩
  rw [hw1] at b0
  rw [hg] at b0
  have k0 := b0.cell 0 (by simp)
  have f0 := b0.free 0
  have p0 := b0.put 0 9
  rw [show valB 9 = .int .u8 9 from rfl] at p0
  have hcv := p0.conv 32 32 (by simp)
  rw [show bs ((List.replicate 32 (0 : UInt8)).set 0 9) = baseB from rfl] at hcv
  have P0 := Lib.hid p0
  rw [show (((List.replicate 32 (0 : UInt8)).getD 0 0).toNat : Int) = 0 from rfl] at k0
  have HW := Lib.hid hw1
  have HG := Lib.hid hg
  clear p0 b0 hw1 hg
  go_enter Tryz.func51, Tryz.ntmps51
  go_upto_region 1 with fail
  go_wp2_with (refine wpList_make_u8 rfl (.const (.int .i64 32)) (.const (.int .i64 32)) rfl 32 rfl rfl (by omega) ?_; rw [HW.out, HG.out])
  go_ret
  exact ⟨rfl, P0.out.bel⟩
end Go.Proofs.YtfckjilhkdlpfaaGreatDoor

namespace Go.Proofs.YtfckjilhkdlpfaaGreatDoor
open Go.RowKit MS
/-- The key and the nonce of a box that is opened. -/
def bothO (pr box : ByteArray) : ByteArray := bothB (xB pr (box.extract 0 32)) (box.extract 0 32 ++ xB pr baseB)
/-- What is sealed in a box. -/
def boxO (pr box : ByteArray) : Option ByteArray := openA ((bothO pr box).extract 0 32) ((bothO pr box).extract 32 44) ⟨#[]⟩ (box.extract 32 box.size)
/-- What Open hands back, by a key of 32 bytes. -/
def sopenV (pr box : ByteArray) : Value :=
  if box.size < 32 then .tuple #[.string ⟨#[]⟩, .int .i64 3] else match boxO pr box with
  | none => .tuple #[.string ⟨#[]⟩, .int .i64 7]
  | some t => unpadV (unpadB t)

set_option maxRecDepth 1000000 in
set_option maxHeartbeats 1000000 in
theorem sopen_no (pr box : ByteArray) (w : World) (hp : pr.size ≠ 32) : Calls Tryz.prog 22 #[.string pr, .string box] w fun e w' => e = .returned (.tuple #[.string ⟨#[]⟩, .int .i64 1]) ∧ Below w.heap.size w w' := by
  have C := Lib.hid (fun w => public_no pr w hp)
  clear hp
  go_enter Tryz.func22, Tryz.ntmps22
  go_wp2_with fail
  refine (C.out _).mono ?_
  rintro e w1 ⟨rfl, hb⟩
  have B := Lib.hid hb
  clear hb
  go_wp2_with fail
  go_ret2
  exact ⟨rfl, B.out⟩
set_option maxRecDepth 1000000 in
set_option maxHeartbeats 2000000 in
theorem sopen_any (pr box : ByteArray) (w : World) (K : Cls w) (G : Glob w) (hp : pr.size = 32) (hs : box.size ≤ 10000) : Calls Tryz.prog 22 #[.string pr, .string box] w fun e w' => e = .returned (sopenV pr box) ∧ Below w.heap.size w w' := by
  have U := Lib.hid (fun w => public_yes pr w hp)
  by_cases h32 : box.size < 32
  · have b1 : (box.size : Int) < 32 := by omega
    have HR := Lib.hid (show sopenV pr box = .tuple #[.string ⟨#[]⟩, .int .i64 3] by rw [sopenV, if_pos h32])
    clear hp hs h32
    go_enter Tryz.func22, Tryz.ntmps22
    go_wp2_with fail
    refine (U.out _).mono ?_
    rintro e w1 ⟨rfl, hb⟩
    have B := Lib.hid hb
    clear hb
    go_wp2_with fail
    go_ret2
    exact ⟨by rw [HR.out]; rfl, B.out⟩
  · have b1 : ¬ (box.size : Int) < 32 := by omega
    have b2 : (32 : Int) ≤ (box.size : Int) := by omega
    have hoz : (box.extract 0 32).size = 32 := by rw [ByteArray.size_extract]; omega
    have hrz : (box.extract 32 box.size).size ≤ 10000 := by rw [ByteArray.size_extract]; omega
    have C := Lib.hid (fun w => point_yes pr (box.extract 0 32) w hp hoz)
    have hx := size_xB pr (box.extract 0 32)
    have hy := size_xB pr baseB
    have HR := Lib.hid (show sopenV pr box = match boxO pr box with
      | none => .tuple #[.string ⟨#[]⟩, .int .i64 7]
      | some t => unpadV (unpadB t) by rw [sopenV, if_neg h32])
    have D := Lib.hid (fun w G => derive_any (xB pr (box.extract 0 32)) (box.extract 0 32 ++ xB pr baseB) w (by omega) (by rw [ByteArray.size_append]; omega) G)
    rw [show bothB (xB pr (box.extract 0 32)) (box.extract 0 32 ++ xB pr baseB) = bothO pr box from rfl] at D
    have hbz : (bothO pr box).size = 44 := size_bothB _ _
    have hk1 : ((bothO pr box).extract 0 32).size = 32 := by rw [ByteArray.size_extract]; omega
    have hk2 : ((bothO pr box).extract 32 44).size = 12 := by rw [ByteArray.size_extract]; omega
    have O := Lib.hid (fun w => aopen_any ((bothO pr box).extract 0 32) ((bothO pr box).extract 32 44) ⟨#[]⟩ (box.extract 32 box.size) w hk1 hk2 (by decide) (by omega))
    rw [show openA ((bothO pr box).extract 0 32) ((bothO pr box).extract 32 44) ⟨#[]⟩ (box.extract 32 box.size) = boxO pr box from rfl] at O
    have HT := Lib.hid (show ∀ t, boxO pr box = some t → t.size ≤ 100000 from fun t ht => by have := size_openA ht; omega)
    generalize boxO pr box = R at *
    generalize (bothO pr box).extract 0 32 = k1 at *
    generalize (bothO pr box).extract 32 44 = k2 at *
    generalize xB pr (box.extract 0 32) = x at *
    generalize xB pr baseB = y at *
    have o1 : ((box.extract 0 32).size : Int) = 32 := by omega
    have y1 : (y.size : Int) = 32 := by omega
    have HK := Lib.hid K
    have HG := Lib.hid G
    clear hp hs h32 hoz hrz hx hy hbz hk1 hk2 K G
    go_enter Tryz.func22, Tryz.ntmps22
    go_wp2_with fail
    refine (U.out _).mono ?_
    rintro e w1 ⟨rfl, hb⟩
    have B := Lib.hid hb
    clear hb
    go_wp2_with fail
    go_quiet (fail)
    have B1 := Lib.hid (below_drewN B.out nq)
    generalize w1.drewN nq = w2 at B1 ⊢
    go_wp2_with fail
    refine (C.out _).mono ?_
    rintro e w3 ⟨rfl, hb⟩
    have B3 := Lib.hid (B1.out.trans (hb.mono B1.out.size))
    have G3 := Lib.hid (HG.out.on B3.out)
    clear hb
    go_wp2_with fail
    refine (D.out _ G3.out).mono ?_
    rintro e w4 ⟨rfl, hb⟩
    have B4 := Lib.hid (B3.out.trans (hb.mono B3.out.size))
    clear hb
    go_wp2_with fail
    refine (O.out _).mono ?_
    rintro e w5 ⟨rfl, hb⟩
    have B5 := Lib.hid (B4.out.trans (hb.mono B4.out.size))
    have K5 := Lib.hid (HK.out.on B5.out)
    clear hb
    cases R with
    | none =>
      simp only [openV]
      go_wp2_with fail
      go_ret2
      exact ⟨by rw [HR.out]; rfl, B5.out⟩
    | some t =>
      have N := Lib.hid (fun w K => unpad_any t w K (HT.out t rfl))
      simp only [openV]
      go_wp2_with fail
      refine (N.out _ K5.out).mono ?_
      rintro e w6 ⟨rfl, hb⟩
      have B6 := Lib.hid (B5.out.trans (hb.mono B5.out.size))
      clear hb
      have HR2 := Lib.hid HR.out
      cases hu : unpadB t with
      | none =>
        simp only [unpadV]
        go_wp2_with fail
        go_ret2
        exact ⟨by rw [HR2.out, hu]; rfl, B6.out⟩
      | some u =>
        simp only [unpadV]
        go_wp2_with fail
        go_ret2
        exact ⟨by rw [HR2.out, hu]; rfl, B6.out⟩
end Go.Proofs.YtfckjilhkdlpfaaGreatDoor

namespace Go.Proofs.YtfckjilhkdlpfaaGreatDoor
open Go.RowKit MS
def laid3 : List (String × DataW Unit) := [("mailsack/sha.initial", Rows.laid_mailsack_sha_initial), ("mailsack/sha.rounds", Rows.laid_mailsack_sha_rounds), ("mailsack/seal.classes", Rows.laid_mailsack_seal_classes)]
theorem own03 : ownKnob Tryz.prog.godebug = none := by kernel_rfl
theorem gCls : Tryz.prog.globalNamed "mailsack/seal.classes" = some 0 := by kernel_rfl
theorem tCls : (Tryz.prog.globals[0]?).map (·.type) = some 91 := by kernel_rfl
def zC : List Int := [128, 256, 512, 704]
theorem cls_of_tab {W : World} (h : Lib.TabIs Tryz.prog W "mailsack/seal.classes" .i64 zC) : Cls W := by
  unfold Lib.TabIs World.var? at h
  rw [gCls] at h
  simp only [Option.bind_some] at h
  split at h
  · rename_i cs t fr hh
    exact ⟨⟨t, fr, by rw [hh, Option.some.inj h]; rfl⟩⟩
  · cases h
theorem cls_of_laid {W : World} (h : laidMetH Tryz.prog laid3 W) : Cls W := by
  rw [MakeChecks.laidMetH_plain _ _ _ (by kernel_rfl)] at h
  have h1 : laidMet Tryz.prog (("mailsack/sha.rounds", Rows.laid_mailsack_sha_rounds) :: [("mailsack/seal.classes", Rows.laid_mailsack_seal_classes)]) W := _root_.Go.laidMet.tail h
  have h2 : laidMet Tryz.prog (("mailsack/seal.classes", Lib.tabData .i64 zC) :: []) W := _root_.Go.laidMet.tail h1
  exact cls_of_tab (Lib.tabIs_of_head gCls tCls Tryz.underlying91 Tryz.underlying3 (by kernel_rfl) (by kernel_rfl) h2)
theorem door_met3 (os : Os) (args : Array Value) : laidMetH Tryz.prog laid3 ((World.doorLaid Tryz.prog 24 os).forCall (fun _ _ => 0) ⟨#[], args, []⟩).memory :=
  laidMetH_of_parts3 (fuel := 8) (laidMet_of_run' 8 (by kernel_rfl) (by kernel_rfl)) (by kernel_rfl) (by kernel_rfl)
end Go.Proofs.YtfckjilhkdlpfaaGreatDoor

namespace Go.Proofs.YtfckjilhkdlpfaaGreatDoor
open Go.RowKit MS
theorem gInit3 : Tryz.prog.globalNamed "mailsack/sha.initial" = some 1 := by kernel_rfl
theorem gRnds3 : Tryz.prog.globalNamed "mailsack/sha.rounds" = some 2 := by kernel_rfl
theorem tInit3 : (Tryz.prog.globals[1]?).map (·.type) = some 116 := by kernel_rfl
theorem tRnds3 : (Tryz.prog.globals[2]?).map (·.type) = some 139 := by kernel_rfl
def zI3 : List Int := IV.toList.map wv
def zK3 : List Int := KT.toList.map wv
theorem row_of3 (a : Array W32) (zs : List Int) (h : zs = a.toList.map wv) : (zs.map fun z => Value.int .u32 z).toArray = rowW a := by
  subst h
  apply Array.toList_inj.1
  simp [rowW]
theorem heap_of_tab3 {W : World} {name : String} {g : Nat} {a : Array W32} {zs : List Int} (hg : Tryz.prog.globalNamed name = some g) (h : Lib.TabIs Tryz.prog W name .u32 zs) (hz : zs = a.toList.map wv) :
    ∃ t fr, W.heap[g]? = some (.cells (rowW a) t fr) := by
  unfold Lib.TabIs World.var? at h
  rw [hg] at h
  simp only [Option.bind_some] at h
  split at h
  · rename_i cs t fr hh
    exact ⟨t, fr, by rw [hh, Option.some.inj h, row_of3 a zs hz]⟩
  · cases h
theorem glob_of_laid3 {W : World} (h : laidMetH Tryz.prog laid3 W) : Glob W := by
  rw [MakeChecks.laidMetH_plain _ _ _ (by kernel_rfl)] at h
  have h0 : laidMet Tryz.prog (("mailsack/sha.initial", Lib.tabData .u32 zI3) :: [("mailsack/sha.rounds", Rows.laid_mailsack_sha_rounds), ("mailsack/seal.classes", Rows.laid_mailsack_seal_classes)]) W := h
  have h1 : laidMet Tryz.prog (("mailsack/sha.rounds", Lib.tabData .u32 zK3) :: [("mailsack/seal.classes", Rows.laid_mailsack_seal_classes)]) W := _root_.Go.laidMet.tail h
  exact ⟨heap_of_tab3 gInit3 (Lib.tabIs_of_head gInit3 tInit3 Tryz.underlying116 Tryz.underlying86 (by kernel_rfl) (by kernel_rfl) h0) rfl,
    heap_of_tab3 gRnds3 (Lib.tabIs_of_head gRnds3 tRnds3 Tryz.underlying139 Tryz.underlying86 (by kernel_rfl) (by kernel_rfl) h1) rfl⟩
end Go.Proofs.YtfckjilhkdlpfaaGreatDoor
