/-
  mailsacklaw06.PolyPlain, PolyShifts, PolySmall: the walks.
-/
import Derived.Test.YtkfacnegfkgcgaaPLw
import Derived.Test.YtkfacnegfkgcgaaTwo
namespace Go.Proofs.Ytkfacnegfkgcgaa
open Go.RowKit MS

section
variable {ops : Array Oper} {Q : Exit → Act → World → Prop}
theorem run_make_u8 (w : World) (N : Nat) (hN : N ≤ 1000000) : (Instr.makeSlice 37 (.int .i64 (N : Int)) (.int .i64 (N : Int))).run Try.prog w = .ok (.slice (some ⟨w.heap.size, 0, none⟩) N N) (w.alloc (.cells (vls (List.replicate N 0)).toArray 5 (0, 0))) := by
  obtain ⟨i8, hj0, hy0, hy1, hy2⟩ : ∃ i, Try.prog.info? 5 = some i ∧ i.zero = some (.int .u8 0) ∧ i.size = 1 ∧ i.bytes = 1 := ⟨_, rfl, rfl, rfl, rfl⟩
  have hrun := run_make (P := Try.prog) w 37 5 i8 (.int .u8 0) Try.underlying37 hj0 hy0 .i64 .i64 (N : Int) (N : Int) (by omega) (by omega) (by rw [hy2]; omega) (by omega)
  rw [hy1] at hrun
  simp only [Int.toNat_natCast, Nat.mul_one] at hrun
  have hz : madeCells (Value.int .u8 0).cells N = (vls (List.replicate N 0)).toArray := by
    apply Array.toList_inj.1
    exact made_u8 N
  rw [hz] at hrun
  exact hrun
theorem wpOp_make_u8 {i d : Nat} {o : Oper} {x y : Operand} {N : Nat} {K : Act → World → Prop} {a : Act} {w : World} (hi : ops[i]? = some o) (hg : o.guard = none) (hd : o.dst = some d) (ho : o.op = .makeSlice 37 x y)
    (hx : a.eval x = .int .i64 (N : Int)) (hy : a.eval y = .int .i64 (N : Int)) (hN : N ≤ 1000000)
    (h : K (a.put (some d) (.slice (some ⟨w.heap.size, 0, none⟩) N N)) (w.alloc (.cells (vls (List.replicate N 0)).toArray 5 (0, 0)))) : wpOp Try.prog ops Q i K a w := by
  unfold wpOp
  simp only [hi]
  have hw : Region.wanted o (yielded ops a.tmps) = true := by simp [Region.wanted, hg]
  rw [if_pos hw]
  refine .inl ?_
  unfold Oper.wp execOp
  simp only [ho, hx, hy, Sem.run_bind, Sem.run_pure, Result.andThen_ok, run_make_u8 w N hN, Oper.upon, hd]
  exact h
theorem wpOp_conv_u8 {i d : Nat} {o : Oper} {x : Operand} {g N c : Nat} {l : List UInt8} {s : ByteArray} {K : Act → World → Prop} {a : Act} {w : World} (hi : ops[i]? = some o) (hg : o.guard = none) (hd : o.dst = some d) (ho : o.op = .convert 37 9 x)
    (hx : a.eval x = .slice (some ⟨g, 0, none⟩) N c) (hb : w.heap[g]? = some (.cells (vls l).toArray 5 (0, 0))) (hl : l.length = N) (hs : bs l = s) (h : K (a.put (some d) (.string s)) w) : wpOp Try.prog ops Q i K a w := by
  subst hs
  unfold wpOp
  simp only [hi]
  have hw : Region.wanted o (yielded ops a.tmps) = true := by simp [Region.wanted, hg]
  rw [if_pos hw]
  refine .inl ?_
  have hc : (convert 37 9 (.slice (some ⟨g, 0, none⟩) N c)).run Try.prog w = .ok (.string (bs l)) w := by
    refine run_bytes_to_string w 37 9 5 Try.underlying37 Try.underlying5 Try.underlying9 g 0 N c l hl (fun j hj => ?_)
    rw [Nat.zero_add, cell_of_row w g j _ _ _ hb]
    simp [vls, valB, hj]
  unfold Oper.wp execOp
  simp only [ho, hx, Sem.run_bind, Sem.run_pure, Result.andThen_ok, hc, Oper.upon, hd]
  exact h
end
theorem conv_zeros (w : World) (N : Nat) : (convert 37 9 (.slice (some ⟨w.heap.size, 0, none⟩) N N)).run Try.prog (w.alloc (.cells (vls (List.replicate N 0)).toArray 5 (0, 0))) = .ok (.string (bs (List.replicate N 0))) (w.alloc (.cells (vls (List.replicate N 0)).toArray 5 (0, 0))) :=
  (Bt.made (T := 5) (Below.refl w.heap.size w) (List.replicate N 0)).conv N N (by simp)
theorem wpList_make_u8 {w : World} {ops : Array Oper} {rest : List Oper} {o : Oper} {a : Act} {Q : Exit → Act → World → Prop} (hgd : o.guard = none) (x y : Operand) (ho : o.op = .makeSlice 37 x y) (N : Nat)
    (hx : a.eval x = .int .i64 (N : Int)) (hy : a.eval y = .int .i64 (N : Int)) (hN : N ≤ 1000000)
    (h : wpList Try.prog ops Q rest (a.put o.dst (.slice (some ⟨w.heap.size, 0, none⟩) N N)) (w.alloc (.cells (vls (List.replicate N 0)).toArray 5 (0, 0)))) : wpList Try.prog ops Q (o :: rest) a w := by
  refine wpList_plain hgd fun K hK => ?_
  unfold Oper.wp execOp
  simp only [ho, hx, hy, Sem.run_bind, Sem.run_pure, Result.andThen_ok, run_make_u8 w N hN]
  exact hK _ _ h

set_option maxRecDepth 100000 in
set_option maxHeartbeats 1000000 in
theorem polyplain_any (key s : ByteArray) (w : World) :
    Calls Try.prog 10 #[.string key, .string s] w fun e w' => e = .returned (.bool true) ∧ Below w.heap.size w w' := by
  have A := Lib.hid (fun w => awake06_any w)
  by_cases h3 : key.size = 32
  · have t3 : ((key.size : Int) != 32) = false := by simp; omega
    by_cases h2 : s.size > 4096
    · have t2 : (s.size : Int) > 4096 := by omega
      clear h3 h2
      go_enter Try.func10, Try.ntmps10
      go_wp2_with fail
      refine (A.out _).mono ?_
      rintro e w1 ⟨rfl, hb1⟩
      go_wp2_with fail
      go_ret
      exact ⟨rfl, hb1⟩
    · have t2 : ¬ (s.size : Int) > 4096 := by omega
      have k16 : (16 : Int) ≤ key.size := by omega
      have hex : key.extract 16 key.size = key.extract 16 32 := by rw [h3]
      have Y := Lib.hid (fun w => tag_yes key ⟨#[]⟩ w h3 (by decide))
      rw [show tagB key ⟨#[]⟩ = key.extract 16 32 from tag_none key h3, ← hex] at Y
      have hsz : (bs (List.replicate 16 0) ++ key.extract 16 key.size).size = 32 := by rw [ByteArray.size_append, size_bs, List.length_replicate, ByteArray.size_extract]; omega
      have Z := Lib.hid (fun w => tag_yes (bs (List.replicate 16 0) ++ key.extract 16 key.size) s w hsz (by omega))
      rw [tag_zero key (bs (List.replicate 16 0) ++ key.extract 16 key.size) s h3 (by
        rw [ls_append, ls_bs, ls_extract, List.take_of_length_le (by rw [List.length_drop, length_ls]; omega)]), ← hex] at Z
      obtain ⟨hf, ehf⟩ : ∃ t, key.extract 16 key.size = t := ⟨_, rfl⟩
      have HF := Lib.hid ehf
      rw [ehf] at Y Z
      obtain ⟨kk, ekk⟩ : ∃ t, bs (List.replicate 16 0) ++ hf = t := ⟨_, rfl⟩
      have HKK := Lib.hid ekk
      rw [ekk] at Z
      obtain ⟨zz, ezz⟩ : ∃ t, bs (List.replicate 16 0) = t := ⟨_, rfl⟩
      have CZ := Lib.hid (fun w => conv_zeros w 16)
      rw [ezz] at CZ ekk
      have HZ := Lib.hid ekk
      have z16 : (zz.size : Int) = 16 := by rw [← ezz]; rfl
      have hf16 : (hf.size : Int) = 16 := by rw [← ehf, ByteArray.size_extract]; omega
      have HZZ := Lib.hid ezz
      have H16 := Lib.hid (show zz.size + hf.size ≤ 9223372036854775807 by omega)
      clear h3 h2 hex hsz ehf ekk ezz
      go_enter Try.func10, Try.ntmps10
      go_wp2_with fail
      refine (Y.out _).mono ?_
      rintro e w1 ⟨rfl, hb1⟩
      have B1 := Lib.hid hb1
      clear hb1 Y
      go_wp2_with fail
      obtain ⟨W1, rfl⟩ : ∃ W1 : World, W1 = w1 := ⟨_, rfl⟩
      refine wp_region_held (S := fun w' => Below W1.heap.size W1 w') (by kernel_rfl) ?_
      change wpAnyH _ _ _ _ _ _ _ _ (World.drew _)
      have HS : Below W1.heap.size W1 W1.drew := (Below.refl _ _).drew
      refine wpAnyH_take_at (i := 2) (d := 26) (v := .string key) rfl (by kernel_rfl) (by kernel_rfl) (by kernel_rfl) (fun _ _ _ h => h) rfl (Or.inl ⟨by rfl, by intro w9 _; go_simp⟩) HS ?_
      simp only [Act.put, List.setIfInBounds_toArray, List.set_cons_zero, List.set_cons_succ]
      refine wpAnyH_take_at (i := 3) (d := 27) (v := .string hf) rfl (by kernel_rfl) (by kernel_rfl) (by kernel_rfl) (fun _ _ _ h => h) rfl (Or.inl ⟨by rfl, by intro w9 _; have h9 := HF.out; go_simp⟩) HS ?_
      simp only [Act.put, List.setIfInBounds_toArray, List.set_cons_zero, List.set_cons_succ]
      refine wpAnyH_take_at (i := 5) (d := 29) (v := .string s) rfl (by kernel_rfl) (by kernel_rfl) (by kernel_rfl) (fun _ _ _ h => h) rfl (Or.inl ⟨by rfl, by intro w9 _; go_simp⟩) HS ?_
      simp only [Act.put, List.setIfInBounds_toArray, List.set_cons_zero, List.set_cons_succ]
      refine wpAnyH_all (rs := [0]) (by kernel_rfl) (by simp) (List.forall_mem_singleton.2 ?_)
      refine wpOp_make_u8 (d := 24) (N := 16) rfl rfl rfl rfl rfl rfl (by decide) ?_
      have HS1 := below_alloc HS (.cells (vls (List.replicate 16 0)).toArray 5 (0, 0))
      refine ⟨HS1, ?_⟩
      simp only [Act.put, List.setIfInBounds_toArray, List.set_cons_zero, List.set_cons_succ]
      refine wpAnyH_all (rs := [1]) (by kernel_rfl) (by simp) (List.forall_mem_singleton.2 ?_)
      refine wpOp_conv_u8 (d := 25) rfl rfl rfl rfl rfl (MapKept.heap_alloc W1.drew _).1 (by simp) HZZ.out ⟨HS1, ?_⟩
      simp only [Act.put, List.setIfInBounds_toArray, List.set_cons_zero, List.set_cons_succ]
      refine wpAnyH_all (rs := [4]) (by kernel_rfl) (by simp) (List.forall_mem_singleton.2 ?_)
      refine wpOp_val (d := 28) (v := .string kk) rfl (by rfl) rfl (by have h9 := HZ.out; have h8 := H16.out; go_simp) ⟨HS1, ?_⟩
      simp only [Act.put, List.setIfInBounds_toArray, List.set_cons_zero, List.set_cons_succ]
      refine wpAnyH_all (rs := [6]) (by kernel_rfl) (by simp) (List.forall_mem_singleton.2 ?_)
      refine wpOp_call (d := 30) (f := 26) (args := #[.string kk, .string s]) rfl (by rfl) rfl (by go_simp) ?_
      refine (Z.out _).mono ?_
      rintro e v1 ⟨rfl, hb⟩
      have HS2 := HS1.trans (hb.mono HS1.size)
      refine ⟨_, rfl, HS2, ?_⟩
      simp only [Act.put, List.setIfInBounds_toArray, List.set_cons_zero, List.set_cons_succ]
      refine wpAnyH_all (rs := [7]) (by kernel_rfl) (by simp) (List.forall_mem_singleton.2 ?_)
      refine wpOp_val (d := 23) (v := .tuple #[.string hf, .bool true]) rfl (by rfl) rfl (by go_simp) ⟨HS2, ?_⟩
      simp only [Act.put, List.setIfInBounds_toArray, List.set_cons_zero, List.set_cons_succ]
      refine wpAnyH_take_at (i := 8) (d := 31) (v := .string hf) rfl (by kernel_rfl) (by kernel_rfl) (by kernel_rfl) (fun _ _ _ h => h) rfl (Or.inl ⟨by rfl, by intro w9 _; go_simp⟩) HS2 ?_
      simp only [Act.put, List.setIfInBounds_toArray, List.set_cons_zero, List.set_cons_succ]
      refine wpAnyH_take_at (i := 9) (d := 32) (v := .bool true) rfl (by kernel_rfl) (by kernel_rfl) (by kernel_rfl) (fun _ _ _ h => h) rfl (Or.inl ⟨by rfl, by intro w9 _; go_simp⟩) HS2 ?_
      simp only [Act.put, List.setIfInBounds_toArray, List.set_cons_zero, List.set_cons_succ]
      refine wpAnyH_take_at (i := 10) (d := 7) (v := .string hf) rfl (by kernel_rfl) (by kernel_rfl) (by kernel_rfl) (fun _ _ _ h => h) rfl (Or.inl ⟨by rfl, by intro w9 _; go_simp⟩) HS2 ?_
      simp only [Act.put, List.setIfInBounds_toArray, List.set_cons_zero, List.set_cons_succ]
      refine wpAnyH_take_at (i := 11) (d := 8) (v := .bool true) rfl (by kernel_rfl) (by kernel_rfl) (by kernel_rfl) (fun _ _ _ h => h) rfl (Or.inl ⟨by rfl, by intro w9 _; go_simp⟩) HS2 ?_
      simp only [Act.put, List.setIfInBounds_toArray, List.set_cons_zero, List.set_cons_succ]
      refine wpAnyH_done (by kernel_rfl) ?_ _
      have B2 := Lib.hid (B1.out.trans (HS2.mono B1.out.size))
      clear hb HS HS1 HS2
      have hex := HF.out
      go_wp2_with fail
      refine (A.out _).mono ?_
      rintro e w3 ⟨rfl, hb3⟩
      have B3 := Lib.hid (B2.out.trans (hb3.mono B2.out.size))
      clear hb3
      go_wp2_with fail
      go_ret
      exact ⟨rfl, B3.out⟩
  · have t3 : ((key.size : Int) != 32) = true := by simp; omega
    clear h3
    go_enter Try.func10, Try.ntmps10
    go_wp2_with fail
    refine (A.out _).mono ?_
    rintro e w1 ⟨rfl, hb1⟩
    go_wp2_with fail
    go_ret
    exact ⟨rfl, hb1⟩
end Go.Proofs.Ytkfacnegfkgcgaa
