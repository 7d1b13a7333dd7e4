/-
  strings.Clone, seal.Pad, seal.Unpad: the walks.
-/
import Derived.Test.YtfckjilhkdlpfaaDoorSeA
import Derived.Shelf.Pu.Clone
import Derived.Deep.DeepCutAuto
namespace Go.Proofs.YtfckjilhkdlpfaaDoor
open Go.RowKit MS

def renC : Go.Shelf.Ren := ⟨fun n => if n = 25 then 55 else n, fun n => if n = 37 then 62 else if n = 47 then 115 else if n = 3 then 3 else if n = 4 then 4 else if n = 5 then 5 else if n = 9 then 9 else n, fun n => n⟩
set_option maxRecDepth 100000 in
theorem laysC : LaysPu.n25 Tryd.prog renC := { mixed := by kernel_rfl, f25 := by kernel_rfl, t0 := by kernel_rfl, a0 := fun _ => by kernel_rfl, z0 := fun _ => by kernel_rfl, v0 := fun _ => by kernel_rfl, i0 := by kernel_rfl, t3 := by kernel_rfl, a3 := fun _ => by kernel_rfl, z3 := fun _ => by kernel_rfl, v3 := fun _ => by kernel_rfl, i3 := by kernel_rfl, t4 := by kernel_rfl, a4 := fun _ => by kernel_rfl, z4 := fun _ => by kernel_rfl, v4 := fun _ => by kernel_rfl, i4 := by kernel_rfl, t5 := by kernel_rfl, a5 := fun _ => by kernel_rfl, z5 := fun _ => by kernel_rfl, v5 := fun _ => by kernel_rfl, i5 := by kernel_rfl, t9 := by kernel_rfl, a9 := fun _ => by kernel_rfl, z9 := fun _ => by kernel_rfl, v9 := fun _ => by kernel_rfl, i9 := by kernel_rfl, t37 := by kernel_rfl, a37 := fun _ => by kernel_rfl, z37 := fun _ => by kernel_rfl, v37 := fun _ => by kernel_rfl, i37 := by kernel_rfl, t47 := by kernel_rfl, a47 := fun _ => by kernel_rfl, z47 := fun _ => by kernel_rfl, v47 := fun _ => by kernel_rfl, i47 := by kernel_rfl }
theorem clone_any (s : ByteArray) (w : World) (hs : s.size ≤ 1000000) :
    Calls Tryd.prog 40 #[.string s] w fun e w' => e = .returned (.string s) ∧ Below w.heap.size w w' := by
  have C := Lib.hid (fun w => AnyPu.stringslite_Clone laysC s w (by omega))
  have C2 := Lib.hid (show ∀ w, Calls Tryd.prog 55 #[.string s] w fun e w' => e = .returned (.string s) ∧ Below w.heap.size w w' from C.out)
  go_enter Tryd.func40, Tryd.ntmps40
  go_wp2_with fail
  refine (C2.out _).mono ?_
  rintro e w1 ⟨rfl, hb1⟩
  go_wp2_with fail
  go_ret
  exact ⟨rfl, hb1⟩

/-- What Pad and Unpad hand back. -/
theorem pad_no (s : ByteArray) (w : World) (C : Cls w) (hs : 700 < s.size) (hb : s.size ≤ 100000) :
    Calls Tryd.prog 19 #[.string s] w fun e w' => e = .returned (.tuple #[.string ⟨#[]⟩, .int .i64 4]) ∧ w = w' := by
  have K := Lib.hid (class_any (s.size : Int) w C)
  rw [clsI_big _ (.inr (by omega))] at K
  have s1 : (s.size : Int) ≤ 100000 := by omega
  clear hs hb
  go_enter Tryd.func19, Tryd.ntmps19
  go_wp2_with fail
  refine K.out.mono ?_
  rintro e w1 ⟨rfl, rfl⟩
  go_wp2_with fail
  go_ret2
  exact ⟨rfl, rfl⟩

theorem pad_row (s : ByteArray) (h : s.size ≤ 700) : ((((List.replicate (clsN s.size) (0 : UInt8)).set 0 (UInt8.ofNat (s.size % 256))).set 1 (UInt8.ofNat (s.size / 256))).take 2 ++ ls s ++ ((((List.replicate (clsN s.size) (0 : UInt8)).set 0 (UInt8.ofNat (s.size % 256))).set 1 (UInt8.ofNat (s.size / 256))).drop (2 + s.size))) = spadL (ls s) := by
  have hl := length_ls s
  have hc := clsN_ge s.size h
  obtain ⟨z, hz⟩ : ∃ z, clsN s.size = z + 2 := ⟨clsN s.size - 2, by omega⟩
  rw [spadL, hl, hz, List.replicate_succ, List.replicate_succ, List.set_cons_zero, List.set_cons_succ, List.set_cons_zero]
  have e1 : ∀ (a b : UInt8) (l : List UInt8), (a :: b :: l).drop (2 + s.size) = l.drop s.size := fun a b l => by rw [Nat.add_comm, List.drop_succ_cons, List.drop_succ_cons]
  rw [e1, List.drop_replicate, List.take_succ_cons, List.take_succ_cons, List.take_zero, Nat.add_sub_cancel]
  simp only [List.cons_append, List.nil_append]
set_option maxRecDepth 100000 in
theorem wpList_copy_mid {w : World} {ops : Array Oper} {rest : List Oper} {o : Oper} {a : Act} {Q : Exit → Act → World → Prop} (hgd : o.guard = none) (d s : Operand)
    (ho : o.op = .call { callee := .builtin .copy, args := #[d, s], argTypes := #[62, 9] })
    (T : TypeId) (g off n dCap : Nat) (L : List UInt8) (str : ByteArray) (hd : a.eval d = .slice (some ⟨g, off, none⟩) n dCap) (hs : a.eval s = .string str)
    (w0 : World) (hg : Bt T g w0 L w) (hle : str.size ≤ n) (hn : off + n ≤ L.length)
    (h : ∀ w', Bt T g w0 (L.take off ++ ls str ++ L.drop (off + str.size)) w' → wpList Tryd.prog ops Q rest (a.put o.dst (goInt str.size)) w') : wpList Tryd.prog ops Q (o :: rest) a w := by
  refine wpList_plain hgd fun K hK => ?_
  have hrun := Lib.run_copy_row_string (P := Tryd.prog) w 62 9 o.type 5 g off n dCap str (vls L).toArray T Tryd.underlying62 (by kernel_rfl) hg.ro hle (by simp [vls]; omega)
  have h' := h (w.setRow g ((vls L).toArray.toList.take off ++ Lib.byteCells str.data.toList ++ (vls L).toArray.toList.drop (off + str.size)).toArray) (by
    refine ⟨hg.ge, ?_, below_setRow hg.bel hg.ge _⟩
    rw [setRow_heap w g _ _ _ _ hg.ro]
    congr 2
    apply Array.toList_inj.1
    simp [vls, Lib.byteCells, ls, valB, List.map_take, List.map_drop])
  generalize (w.setRow g _) = w' at hrun h'
  unfold Oper.wp
  simp [execOp, ho, resolve, invoke, builtin, hd, hs, hrun, Result.andThen]
  exact hK _ _ h'

set_option maxRecDepth 100000 in
set_option maxHeartbeats 1000000 in
theorem pad_yes (s : ByteArray) (w : World) (C : Cls w) (hs : s.size ≤ 700) :
    Calls Tryd.prog 19 #[.string s] w fun e w' => e = .returned (.tuple #[.string (spadB s), .int .i64 0]) ∧ Below w.heap.size w w' := by
  have K := Lib.hid (class_any (s.size : Int) w C)
  rw [clsI_nat _ hs] at K
  have HROW := Lib.hid (pad_row s hs)
  have HP := Lib.hid (show spadB s = bs (spadL (ls s)) from rfl)
  have HPL := Lib.hid (show (spadL (ls s)).length = clsN s.size by rw [length_spadL _ (by rw [length_ls]; exact hs), length_ls])
  have hge := clsN_ge s.size hs
  have hle := clsN_le s.size
  have hgt : 128 ≤ clsN s.size := by rcases clsN_cases s.size with h | h | h | h <;> omega
  obtain ⟨c, hc⟩ : ∃ c, clsN s.size = c := ⟨_, rfl⟩
  rw [hc] at K HROW HPL hge hle hgt
  rw [HP.out]
  have s1 : (s.size : Int) ≤ 700 := by omega
  have s0 : (0 : Int) ≤ (s.size : Int) := by omega
  have c1 : ((c : Int) == 0) = false := beq_eq_false_iff_ne.2 (by omega)
  have c2 : (c : Int) ≤ 704 := by omega
  have c3 : (2 : Int) < (c : Int) := by omega
  have c4 : (0 : Int) < (c : Int) := by omega
  have c5 : (1 : Int) < (c : Int) := by omega
  have HGE := Lib.hid hge
  have HB := Lib.hid (show c ≤ 1000000 by omega)
  generalize spadL (ls s) = PL at *
  have HV0 := Lib.hid (show valB (UInt8.ofNat (s.size % 256)) = .int .u8 ((s.size : Int) % 256) by rw [valB, UInt8.toNat_ofNat', show s.size % 256 % 2 ^ 8 = s.size % 256 by omega]; rfl)
  have HV1 := Lib.hid (show valB (UInt8.ofNat (s.size / 256)) = .int .u8 ((s.size : Int) / 256) by rw [valB, UInt8.toNat_ofNat', show s.size / 256 % 2 ^ 8 = s.size / 256 by omega]; rfl)
  clear hs hc hge hle hgt HP
  go_enter Tryd.func19, Tryd.ntmps19
  go_wp2_with fail
  refine K.out.mono ?_
  rintro e w1 ⟨rfl, rfl⟩
  have B0 := Lib.hid (Bt.made (T := 5) (Below.refl w.heap.size w) (List.replicate c 0))
  go_upto_region 5 with (refine wpList_make_u8 rfl (.tmp 11) (.tmp 11) rfl c rfl rfl HB.out ?_)
  generalize w.alloc (.cells (vls (List.replicate c 0)).toArray 5 (0, 0)) = w1 at B0 ⊢
  generalize hA : w.heap.size = g at B0 ⊢
  have HA := Lib.hid hA
  clear hA
  have k0 := B0.out.cell 0 (by have := HGE.out; simp; omega)
  have f0 := B0.out.free 0
  have p0 := B0.out.put 0 (UInt8.ofNat (s.size % 256))
  have k1 := p0.cell 1 (by have := HGE.out; simp; omega)
  have f1 := p0.free 1
  have p1 := p0.put 1 (UInt8.ofNat (s.size / 256))
  rw [HV0.out] at p1 k1 f1
  rw [HV1.out] at p1
  have P1 := Lib.hid p1
  clear p0 p1
  go_upto_region 6 with fail
  generalize World.setCell _ ⟨g, 1, none⟩ _ = w3 at P1 ⊢
  clear k0 k1 f0 f1
  have HLN := Lib.hid (show (((List.replicate c (0 : UInt8)).set 0 (UInt8.ofNat (s.size % 256))).set 1 (UInt8.ofNat (s.size / 256))).length = c by simp)
  generalize ((List.replicate c (0 : UInt8)).set 0 (UInt8.ofNat (s.size % 256))).set 1 (UInt8.ofNat (s.size / 256)) = L at *
  have HSN := Lib.hid (show s.size ≤ c - 2 by have := HGE.out; omega)
  have HOF := Lib.hid (show 2 + (c - 2) ≤ L.length by rw [HLN.out]; have := HGE.out; omega)
  have c6 : (c : Int) - 2 = ((c - 2 : Nat) : Int) := by have := HGE.out; omega
  go_wp2_with (refine wpList_copy_mid rfl (.tmp 25) (.tmp 26) rfl 5 g 2 (c - 2) (c - 2) L s rfl rfl w P1.out HSN.out HOF.out ?_)
  intro w4 h4
  rw [← List.append_assoc, HROW.out] at h4
  have B4 := Lib.hid h4
  have hcv := h4.conv c c HPL.out
  clear h4
  go_wp2_with fail
  go_ret2
  exact ⟨rfl, B4.out.bel⟩
end Go.Proofs.YtfckjilhkdlpfaaDoor
