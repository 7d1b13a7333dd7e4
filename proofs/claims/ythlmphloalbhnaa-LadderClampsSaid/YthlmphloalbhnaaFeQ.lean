/-
  The laws of sums and products modulo the prime; the fixed answer of layer 3.
-/
import Derived.Test.YthlmphloalbhnaaFeB
namespace MS
def em (x y : N5) : Prop := x.v % Q' = y.v % Q'
theorem em_add {x x' y y' : N5} (h : em x x') (k : em y y') : em (add x y) (add x' y') := by
  unfold em at *; rw [add_mod, add_mod, Nat.add_mod, h, k, ← Nat.add_mod]
theorem em_mul {x x' y y' : N5} (h : em x x') (k : em y y') : em (mul x y) (mul x' y') := by
  unfold em at *; rw [mul_mod, mul_mod, Nat.mul_mod, h, k, ← Nat.mul_mod]
theorem em_add_comm (a b : N5) : em (add a b) (add b a) := by unfold em; rw [add_mod, add_mod, Nat.add_comm]
theorem em_mul_comm (a b : N5) : em (mul a b) (mul b a) := by unfold em; rw [mul_mod, mul_mod, Nat.mul_comm]
theorem em_sub_add (a : N5) {b : N5} (hb : b.ok) : em (add (sub a b) b) a := by unfold em; rw [add_mod]; exact sub_mod hb
theorem em_mul_assoc (a b c : N5) : em (mul a (mul b c)) (mul (mul a b) c) := by
  unfold em
  rw [mul_mod, mul_mod, Nat.mul_mod, mul_mod b c, ← Nat.mul_mod, Nat.mul_mod (mul a b).v, mul_mod a b, ← Nat.mul_mod, Nat.mul_assoc]
theorem em_distrib (a b c : N5) : em (mul a (add b c)) (add (mul a b) (mul a c)) := by
  unfold em
  rw [mul_mod, add_mod, Nat.mul_mod, add_mod b c, ← Nat.mul_mod, Nat.add_mod, mul_mod a b, mul_mod a c, ← Nat.add_mod, Nat.mul_add]
/-- What added to b is a is the difference. -/
theorem em_cancel {x y b : N5} (h : (x.v + b.v) % Q' = (y.v + b.v) % Q') : em x y := by
  unfold em
  have h1 := Nat.div_add_mod x.v Q'
  have h2 := Nat.div_add_mod y.v Q'
  have h3 := Nat.mod_lt x.v (show 0 < Q' by decide)
  have h4 := Nat.mod_lt y.v (show 0 < Q' by decide)
  rw [Nat.add_mod, Nat.add_mod y.v] at h
  have h5 := Nat.mod_lt b.v (show 0 < Q' by decide)
  generalize x.v % Q' = p at *
  generalize y.v % Q' = q at *
  generalize b.v % Q' = r at *
  clear h1 h2
  unfold Q' at *
  omega
def n0 : N5 := ⟨0, 0, 0, 0, 0⟩
theorem n0_v : n0.v = 0 := rfl
theorem n0_ok : n0.ok := by unfold n0 N5.ok; simp
theorem em_sub_self {a : N5} (ha : a.ok) : em (sub a a) n0 := em_cancel (b := a) (by rw [sub_mod ha, n0_v, Nat.zero_add])
theorem em_sub_sub {a : N5} (ha : a.ok) (h1 : (sub n0 a).ok) : em (sub n0 (sub n0 a)) a := by
  refine em_cancel (b := sub n0 a) ?_
  rw [sub_mod h1, Nat.add_comm a.v, sub_mod ha]
theorem em_small (a : N5) (n m : Nat) : em (add (mul a ⟨n, 0, 0, 0, 0⟩) (mul a ⟨m, 0, 0, 0, 0⟩)) (mul a ⟨n + m, 0, 0, 0, 0⟩) := by
  unfold em
  rw [add_mod, mul_mod, Nat.add_mod, mul_mod, mul_mod, ← Nat.add_mod]
  congr 1
  simp only [N5.v]
  rw [← Nat.mul_add]
  simp only [Nat.mul_zero, Nat.add_zero]
theorem em_twice (a : N5) : em (mul a ⟨2, 0, 0, 0, 0⟩) (add a a) := by
  unfold em
  rw [add_mod, mul_mod]
  congr 1
  simp only [N5.v]
  omega
end MS
namespace Go.Proofs.Ythlmphloalbhnaa
open Go.RowKit MS
theorem ls_get (s : ByteArray) (j : Nat) (h : j < s.size) : s[j]'h = (ls s).getD j 0 := by
  have hl : j < s.data.toList.length := by simpa using h
  unfold ls
  rw [List.getD_eq_getElem?_getD, List.getElem?_eq_getElem hl]
  rfl
theorem feB_em {x y : N5} (h : em x y) : feB x = feB y := by unfold feB; rw [h]
theorem size_feB (x : N5) : (feB x).size = 32 := by rw [feB, size_bs, length_le32]
theorem add_ok {x y : N5} (hx : x.ok) (hy : y.ok) : (add x y).ok := nar_ok (add_nar hx hy)
theorem sub_ok {x y : N5} (hx : x.ok) : (sub x y).ok := nar_ok (sub_nar hx)
theorem mul_ok {x y : N5} (hx : x.ok) (hy : y.ok) : (mul x y).ok := nar_ok (mul_nar hx hy)
theorem quiet_load_row {P : Program} {C : World → Prop} {K : Act → Prop} {a : Act} {o : Oper} (ty : TypeId) (x : Operand) (ho : o.op = .load ty x)
    (g : Nat) (hx : a.eval x = .pointer (some ⟨g, 0, none⟩)) (t : TypeId) (cs : Array Value) (fr : Nat × Nat) (d : TypeDesc) (hC : ∀ w, C w → w.heap[g]? = some (.cells cs t fr))
    (hu : P.underlying ty = some d) (hd : (match d with | .struct _ | .array _ _ => true | _ => false) = true) (hi : (P.info? ty).map (·.size) = some cs.size)
    (hK : K (a.put o.dst (.agg cs))) : Oper.quiet P o a C K := by
  refine ⟨.agg cs, fun w hw => ?_, hK⟩
  unfold Oper.quietAt execOp
  simp only [ho, hx, Instr.loadAt, Instr.sureAddr, Sem.run_bind, Sem.run_pure, Result.andThen_ok, run_loadVar_row w g t ty cs fr d (hC w hw) hu hd hi]
  exact ⟨rfl, rfl⟩

theorem run_same_num (w : World) (d : Nat) (x : N5) : (Op.equalIn (d + 2) 24 (.agg (nvA x)) (.agg (nvA x))).run Try.prog w = .ok true w := by
  have hsz : ∀ w, (sizeOf 22).run Try.prog w = .ok 1 w := fun w => by kernel_rfl
  rw [Op.equalIn]
  simp only [Sem.run_bind, run_underlying Try.underlying24, Result.andThen_ok, hsz, Std.Legacy.Range.forIn_eq_forIn_range', Std.Legacy.Range.size, Nat.sub_zero, Nat.add_sub_cancel, Nat.div_one]
  have hl : ∀ i ∈ List.range' 0 5 1, i < 5 := fun i hi => by simpa using (List.mem_range'_1.1 hi).2
  generalize List.range' 0 5 1 = l at hl ⊢
  induction l with
  | nil => simp
  | cons i l ih =>
    have hi : i < 5 := hl i (by simp)
    have hg : (nvA x)[i]? = some (.int .u64 (getN x i : Nat)) := rowF_get (getN x) i hi
    have px : (part 22 (nvA x) (i * 1)).run Try.prog w = .ok (.int .u64 (getN x i : Nat)) w := by
      simp [part, isAgg, run_underlying Try.underlying22, hg]
    have pe : (Op.equalIn (d + 1) 22 (.int .u64 (getN x i : Nat)) (.int .u64 (getN x i : Nat))).run Try.prog w = .ok true w := by
      rw [run_equalIn_int w d 22 .u64 .u64 _ _ Try.underlying22]
      simp
    simp only [List.forIn_cons, Sem.run_bind, px, pe, Result.andThen_ok, Bool.not_true, Bool.false_eq_true, if_false, Sem.run_pure]
    exact ih fun j hj => hl j (by simp [hj])
theorem run_eql_num (x : N5) (w : World) : (binOp .eql 24 (.agg (nvA x)) (.agg (nvA x))).run Try.prog w = .ok (.bool true) w := by
  rw [run_eql_struct, show (10000 : Nat) = 9998 + 2 from rfl, run_same_num w 9998 x]
  rfl

def dA1 : ByteArray := feB (sub n0 ⟨1, 0, 0, 0, 0⟩)
def dA2 : ByteArray := feB (mul ⟨3, 0, 0, 0, 0⟩ ⟨5, 0, 0, 0, 0⟩)
theorem dA1_0 : (ls dA1).getD 0 0 = 236 := by decide +kernel
theorem dA1_1 : (ls dA1).getD 1 0 = 255 := by decide +kernel
theorem dA1_31 : (ls dA1).getD 31 0 = 127 := by decide +kernel
theorem dA2_0 : (ls dA2).getD 0 0 = 15 := by decide +kernel

set_option maxHeartbeats 1000000 in
theorem awake03_any (w : World) : Calls Try.prog 22 #[] w fun e w' => e = .returned (.bool true) ∧ Below w.heap.size w w' := by
  have S := Lib.hid (fun w => fesub_any n0 ⟨1, 0, 0, 0, 0⟩ n0_ok (by unfold N5.ok; simp) w)
  have B := Lib.hid (fun w => febytes_any (sub n0 ⟨1, 0, 0, 0, 0⟩) (sub_ok n0_ok) w)
  have M := Lib.hid (fun w => femul_any ⟨3, 0, 0, 0, 0⟩ ⟨5, 0, 0, 0, 0⟩ (by unfold N5.ok; simp) (by unfold N5.ok; simp) w)
  have C := Lib.hid (fun w => febytes_any (mul ⟨3, 0, 0, 0, 0⟩ ⟨5, 0, 0, 0, 0⟩) (mul_ok (by unfold N5.ok; simp) (by unfold N5.ok; simp)) w)
  rw [show feB (sub n0 ⟨1, 0, 0, 0, 0⟩) = dA1 from rfl] at B
  rw [show feB (mul ⟨3, 0, 0, 0, 0⟩ ⟨5, 0, 0, 0, 0⟩) = dA2 from rfl] at C
  rw [show nvA n0 = #[.int .u64 0, .int .u64 0, .int .u64 0, .int .u64 0, .int .u64 0] from rfl, show nvA ⟨1, 0, 0, 0, 0⟩ = #[.int .u64 1, .int .u64 0, .int .u64 0, .int .u64 0, .int .u64 0] from rfl] at S
  rw [show nvA ⟨3, 0, 0, 0, 0⟩ = #[.int .u64 3, .int .u64 0, .int .u64 0, .int .u64 0, .int .u64 0] from rfl, show nvA ⟨5, 0, 0, 0, 0⟩ = #[.int .u64 5, .int .u64 0, .int .u64 0, .int .u64 0, .int .u64 0] from rfl] at M
  have s1 : dA1.size = 32 := size_feB _
  have s2 : dA2.size = 32 := size_feB _
  have b0 := (ls_get dA1 0 (by rw [s1]; decide)).trans dA1_0
  have b1 := (ls_get dA1 1 (by rw [s1]; decide)).trans dA1_1
  have b2 := (ls_get dA1 31 (by rw [s1]; decide)).trans dA1_31
  have b3 := (ls_get dA2 0 (by rw [s2]; decide)).trans dA2_0
  generalize dA1 = D1 at *
  generalize dA2 = D2 at *
  generalize nvA (sub n0 ⟨1, 0, 0, 0, 0⟩) = r1 at *
  generalize nvA (mul ⟨3, 0, 0, 0, 0⟩ ⟨5, 0, 0, 0, 0⟩) = r2 at *
  have z1 : ((D1.size : Int) == 32) = true := by simp; omega
  have i0 : (0 : Int) < D1.size := by omega
  have i1 : (1 : Int) < D1.size := by omega
  have i2 : (31 : Int) < D1.size := by omega
  have i3 : (0 : Int) < D2.size := by omega
  go_enter Try.func22, Try.ntmps22
  go_wp2_with fail
  refine (S.out _).mono ?_
  rintro e w1 ⟨rfl, hb⟩
  have B1 := Lib.hid hb
  clear hb
  go_wp2_with fail
  refine (B.out _).mono ?_
  rintro e w2 ⟨rfl, hb⟩
  have B2 := Lib.hid (B1.out.trans (hb.mono B1.out.size))
  clear hb
  go_wp2_with fail
  refine (M.out _).mono ?_
  rintro e w3 ⟨rfl, hb⟩
  have B3 := Lib.hid (B2.out.trans (hb.mono B2.out.size))
  clear hb
  go_wp2_with fail
  refine (C.out _).mono ?_
  rintro e w4 ⟨rfl, hb⟩
  have B4 := Lib.hid (B3.out.trans (hb.mono B3.out.size))
  clear hb
  go_wp2_with fail
  go_ret
  exact ⟨rfl, B4.out⟩
end Go.Proofs.Ythlmphloalbhnaa
