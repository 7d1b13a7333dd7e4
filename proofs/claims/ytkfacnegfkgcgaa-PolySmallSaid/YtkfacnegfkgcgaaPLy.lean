/-
  mailsacklaw06.PolyShifts, PolySmall: the walks.
-/
import Derived.Test.YtkfacnegfkgcgaaPLx
namespace Go.Proofs.Ytkfacnegfkgcgaa
open Go.RowKit MS

theorem nbs_at (n v j : Nat) (h : j < n) : ((ls (bs (nbs n v))).getD j 0).toNat = v / 256 ^ j % 256 := by
  rw [ls_bs, List.getD_eq_getElem?_getD, nbs_get _ _ _ h, Option.getD_some, UInt8.toNat_ofNat']
  have := Nat.mod_lt (v / 256 ^ j) (show 0 < 256 by decide)
  omega
theorem leb_at (l : List UInt8) (j : Nat) (h : j < l.length) : (l.getD j 0).toNat = leb l / 256 ^ j % 256 := by
  rw [leb_digit l j h, List.getD_eq_getElem?_getD, List.getElem?_eq_getElem h]; rfl

set_option maxRecDepth 100000 in
set_option maxHeartbeats 2000000 in
theorem polyshifts_any (key s : ByteArray) (w : World) :
    Calls Try.prog 11 #[.string key, .string s] w fun e w' => e = .returned (.bool true) ∧ Below w.heap.size w w' := by
  have A := Lib.hid (fun w => awake06_any w)
  by_cases h3 : key.size = 32
  · have t3 : ((key.size : Int) != 32) = false := by simp; omega
    by_cases h2 : s.size > 4096
    · have t2 : (s.size : Int) > 4096 := by omega
      clear h3 h2
      go_enter Try.func11, Try.ntmps11
      go_wp2_with fail
      refine (A.out _).mono ?_
      rintro e w1 ⟨rfl, hb1⟩
      go_wp2_with fail
      go_ret
      exact ⟨rfl, hb1⟩
    · have t2 : ¬ (s.size : Int) > 4096 := by omega
      have k16 : (16 : Int) ≤ key.size := by omega
      have k32 : (key.size : Int) = 32 := by omega
      have K32 := Lib.hid h3
      have hsz : (key.extract 0 16 ++ bs (List.replicate 16 0)).size = 32 := by rw [ByteArray.size_append, size_bs, List.length_replicate, ByteArray.size_extract]; omega
      have Y := Lib.hid (fun w => tag_yes (key.extract 0 16 ++ bs (List.replicate 16 0)) s w hsz (by omega))
      rw [tag_first key (key.extract 0 16 ++ bs (List.replicate 16 0)) s h3 (by rw [ls_append, ls_bs, ls_extract, List.drop_zero])] at Y
      have Z := Lib.hid (fun w => tag_yes key s w h3 (by omega))
      rw [tag_sum] at Z
      have HK := Lib.hid (fun j (hj : j < 16) => show ((ls key).getD (16 + j) 0).toNat = leb ((ls key).drop 16) / 256 ^ j % 256 from by
        rw [← leb_at ((ls key).drop 16) j (by rw [List.length_drop, length_ls]; omega)]
        congr 1
        rw [List.getD_eq_getElem?_getD, List.getD_eq_getElem?_getD, List.getElem?_drop])
      generalize tagH key s = X at *
      generalize leb ((ls key).drop 16) = H at *
      have HA := Lib.hid (nbs_at 16 X)
      have HB := Lib.hid (nbs_at 16 (X + H))
      obtain ⟨a, ea⟩ : ∃ t, bs (nbs 16 X) = t := ⟨_, rfl⟩
      obtain ⟨b, eb⟩ : ∃ t, bs (nbs 16 (X + H)) = t := ⟨_, rfl⟩
      have a16 : (a.size : Int) = 16 := by rw [← ea, size_bs, length_nbs]; rfl
      have b16 : (b.size : Int) = 16 := by rw [← eb, size_bs, length_nbs]; rfl
      rw [ea] at HA Y
      rw [eb] at HB Z
      have HDA := Lib.hid (add_digit 256 X H)
      have HCA := Lib.hid (add_carry 256 X H)
      have HCL := Lib.hid (fun i => cry_le 256 X H i (by decide))
      obtain ⟨hf, ehf⟩ : ∃ t, key.extract 0 16 = t := ⟨_, rfl⟩
      have HF := Lib.hid ehf
      rw [ehf] at Y
      obtain ⟨zz, ezz⟩ : ∃ t, bs (List.replicate 16 0) = t := ⟨_, rfl⟩
      rw [ezz] at Y
      have HZZ := Lib.hid ezz
      obtain ⟨kk, ekk⟩ : ∃ t, hf ++ zz = t := ⟨_, rfl⟩
      rw [ekk] at Y
      have HZ := Lib.hid ekk
      have H16 := Lib.hid (show hf.size + zz.size ≤ 9223372036854775807 by rw [← ehf, ← ezz, ByteArray.size_extract, size_bs, List.length_replicate]; omega)
      clear h3 h2 hsz ea eb ehf ekk ezz
      go_enter Try.func11, Try.ntmps11
      go_wp2_with fail
      obtain ⟨W1, rfl⟩ : ∃ W1 : World, W1 = w := ⟨_, rfl⟩
      refine wp_region_held (S := fun w' => Below W1.heap.size W1 w') (by kernel_rfl) ?_
      change wpAnyH _ _ _ _ _ _ _ _ (World.drew _)
      have HS : Below W1.heap.size W1 W1.drew := (Below.refl _ _).drew
      refine wpAnyH_take_at (i := 0) (d := 22) (v := .string key) rfl (by kernel_rfl) (by kernel_rfl) (by kernel_rfl) (fun _ _ _ h => h) rfl (Or.inl ⟨by rfl, by intro w9 _; go_simp⟩) HS ?_
      simp only [Act.put, List.setIfInBounds_toArray, List.set_cons_zero, List.set_cons_succ]
      refine wpAnyH_take_at (i := 1) (d := 23) (v := .string hf) rfl (by kernel_rfl) (by kernel_rfl) (by kernel_rfl) (fun _ _ _ h => h) rfl (Or.inl ⟨by rfl, by intro w9 _; have h9 := HF.out; go_simp⟩) HS ?_
      simp only [Act.put, List.setIfInBounds_toArray, List.set_cons_zero, List.set_cons_succ]
      refine wpAnyH_take_at (i := 5) (d := 27) (v := .string s) rfl (by kernel_rfl) (by kernel_rfl) (by kernel_rfl) (fun _ _ _ h => h) rfl (Or.inl ⟨by rfl, by intro w9 _; go_simp⟩) HS ?_
      simp only [Act.put, List.setIfInBounds_toArray, List.set_cons_zero, List.set_cons_succ]
      refine wpAnyH_all (rs := [2]) (by kernel_rfl) (by simp) (List.forall_mem_singleton.2 ?_)
      refine wpOp_make_u8 (d := 24) (N := 16) rfl rfl rfl rfl rfl rfl (by decide) ?_
      have HS1 := below_alloc HS (.cells (vls (List.replicate 16 0)).toArray 5 (0, 0))
      refine ⟨HS1, ?_⟩
      simp only [Act.put, List.setIfInBounds_toArray, List.set_cons_zero, List.set_cons_succ]
      refine wpAnyH_all (rs := [3]) (by kernel_rfl) (by simp) (List.forall_mem_singleton.2 ?_)
      refine wpOp_conv_u8 (d := 25) rfl rfl rfl rfl rfl (MapKept.heap_alloc W1.drew _).1 (by simp) HZZ.out ⟨HS1, ?_⟩
      simp only [Act.put, List.setIfInBounds_toArray, List.set_cons_zero, List.set_cons_succ]
      refine wpAnyH_all (rs := [4]) (by kernel_rfl) (by simp) (List.forall_mem_singleton.2 ?_)
      refine wpOp_val (d := 26) (v := .string kk) rfl (by rfl) rfl (by have h9 := HZ.out; have h8 := H16.out; go_simp) ⟨HS1, ?_⟩
      simp only [Act.put, List.setIfInBounds_toArray, List.set_cons_zero, List.set_cons_succ]
      refine wpAnyH_all (rs := [6]) (by kernel_rfl) (by simp) (List.forall_mem_singleton.2 ?_)
      refine wpOp_call (d := 28) (f := 26) (args := #[.string kk, .string s]) rfl (by rfl) rfl (by go_simp) ?_
      refine (Y.out _).mono ?_
      rintro e v1 ⟨rfl, hb⟩
      have HS2 := HS1.trans (hb.mono HS1.size)
      refine ⟨_, rfl, HS2, ?_⟩
      simp only [Act.put, List.setIfInBounds_toArray, List.set_cons_zero, List.set_cons_succ]
      refine wpAnyH_all (rs := [7]) (by kernel_rfl) (by simp) (List.forall_mem_singleton.2 ?_)
      refine wpOp_val (d := 21) (v := .tuple #[.string a, .bool true]) rfl (by rfl) rfl (by go_simp) ⟨HS2, ?_⟩
      simp only [Act.put, List.setIfInBounds_toArray, List.set_cons_zero, List.set_cons_succ]
      refine wpAnyH_take_at (i := 8) (d := 29) (v := .string a) rfl (by kernel_rfl) (by kernel_rfl) (by kernel_rfl) (fun _ _ _ h => h) rfl (Or.inl ⟨by rfl, by intro w9 _; go_simp⟩) HS2 ?_
      simp only [Act.put, List.setIfInBounds_toArray, List.set_cons_zero, List.set_cons_succ]
      refine wpAnyH_take_at (i := 9) (d := 30) (v := .bool true) rfl (by kernel_rfl) (by kernel_rfl) (by kernel_rfl) (fun _ _ _ h => h) rfl (Or.inl ⟨by rfl, by intro w9 _; go_simp⟩) HS2 ?_
      simp only [Act.put, List.setIfInBounds_toArray, List.set_cons_zero, List.set_cons_succ]
      refine wpAnyH_take_at (i := 10) (d := 5) (v := .string a) rfl (by kernel_rfl) (by kernel_rfl) (by kernel_rfl) (fun _ _ _ h => h) rfl (Or.inl ⟨by rfl, by intro w9 _; go_simp⟩) HS2 ?_
      simp only [Act.put, List.setIfInBounds_toArray, List.set_cons_zero, List.set_cons_succ]
      refine wpAnyH_take_at (i := 11) (d := 6) (v := .bool true) rfl (by kernel_rfl) (by kernel_rfl) (by kernel_rfl) (fun _ _ _ h => h) rfl (Or.inl ⟨by rfl, by intro w9 _; go_simp⟩) HS2 ?_
      simp only [Act.put, List.setIfInBounds_toArray, List.set_cons_zero, List.set_cons_succ]
      refine wpAnyH_done (by kernel_rfl) ?_ _
      have B1 := Lib.hid HS2
      clear hb HS HS1 HS2 Y
      go_wp2_with fail
      refine (Z.out _).mono ?_
      rintro e w2 ⟨rfl, hb2⟩
      have B2 := Lib.hid (B1.out.trans (hb2.mono B1.out.size))
      have a17 : ((a.size : Int) != 16) = false := by simp; omega
      have b17 : ((b.size : Int) != 16) = false := by simp; omega
      clear hb2 Z
      go_wp2_with fail
      have HC0 := Lib.hid (cry_zero 256 X H)
      go_loopw [9, 10] (fun c i wr => ∃ j : Nat, j ≤ 16 ∧ i = .int .i64 j ∧ c = .int .i64 (cry 256 X H j : Nat) ∧ Below W1.heap.size W1 wr) (fun _ i _ => 16 - (intOf i).toNat)
      case atStart => exact ⟨0, by omega, rfl, by rw [HC0.out]; rfl, B2.out⟩
      case round =>
        obtain ⟨j, hj, rfl, rfl, hb⟩ := hrel
        have BR := Lib.hid hb
        clear hb B1 B2
        by_cases hlt : j < 16
        · have j1 : (j : Int) < 16 := by omega
          have j0 : (0 : Int) ≤ (j : Int) := by omega
          have ia : j < a.size := by omega
          have ib : j < b.size := by omega
          have ik : 16 + j < key.size := by omega
          have ga := ls_get a j ia
          have gb := ls_get b j ib
          have gk := ls_get key (16 + j) ik
          have ha := HA.out j hlt
          have hb := HB.out j hlt
          have hk := HK.out j hlt
          have hc := HCL.out j
          have hd := HDA.out j (by decide)
          have hcc := HCA.out j (by decide)
          have hx := dig_lt 256 (by decide) X j
          have hy := dig_lt 256 (by decide) H j
          generalize (ls a).getD j 0 = x at *
          generalize (ls b).getD j 0 = z at *
          generalize (ls key).getD (16 + j) 0 = y at *
          rw [← ha] at hd hcc hx
          rw [← hk] at hd hcc hy
          rw [← hb] at hd
          obtain ⟨c, ec⟩ : ∃ c, cry 256 X H j = c := ⟨_, rfl⟩
          rw [ec] at hc hd hcc ⊢
          obtain ⟨S, eS⟩ : ∃ S, c + x.toNat + y.toNat = S := ⟨_, rfl⟩
          rw [eS] at hd hcc
          obtain ⟨u, eu⟩ : ∃ u, x.toNat + y.toNat = u := ⟨_, rfl⟩
          obtain ⟨k, ek⟩ : ∃ k, 16 + j = k := ⟨_, rfl⟩
          have e1 : IntKind.i64.wrap ((x.toNat : Int) + (y.toNat : Int)) = (u : Int) := by rw [IntWalk.i64_in _ (by omega)]; omega
          have e2 : IntKind.i64.wrap ((u : Int) + (c : Int)) = (S : Int) := by rw [IntWalk.i64_in _ (by omega)]; omega
          have e3 : IntKind.i64.wrap (16 + (j : Int)) = (k : Int) := by rw [IntWalk.i64_in _ (by omega)]; omega
          have e4 : (0 : Int) ≤ (k : Int) := by omega
          have e5 : (k : Int) < 32 := by omega
          have e6 : (k : Int).toNat = k := by omega
          have bz : ((z.toNat : Int) != (S : Int) % 256) = false := by simp; omega
          have s0 : (0 : Int) ≤ (S : Int) := by omega
          have s1 : (S : Int) < 1000 := by omega
          have HCC := Lib.hid hcc
          have zb := z.toNat_lt
          have z1 : (z.toNat : Int) < 256 := by omega
          have z0 : (0 : Int) ≤ (z.toNat : Int) := by omega
          have HLT := Lib.hid hlt
          have ex0 : IntKind.i64.wrap (x.toNat : Int) = (x.toNat : Int) := by rw [IntWalk.i64_in _ (by omega)]
          have ey0 : IntKind.i64.wrap (y.toNat : Int) = (y.toNat : Int) := by rw [IntWalk.i64_in _ (by omega)]
          have gk2 : ∀ h, key[k]'h = y := by intro h; subst ek; exact gk
          have ik2 : k < key.size := by omega
          clear hlt hj ha hb hk hc hd hcc hx hy ec eS eu gk ik ek zb
          go_wp2_with fail
          go_quiet (fail)
          have BQ9 := Lib.hid (below_drewN BR.out nq)
          generalize wr.drewN nq = wq at *
          clear e1 e2 e3 ex0 ey0 gk2 ga
          go_wp2_with fail
          go_roundw
          case rel => exact ⟨j + 1, HLT.out, by go_num, by rw [HCC.out]; go_num, BQ9.out⟩
          case measure => simp [intOf]; have := HLT.out; omega
        · have j1 : ¬ (j : Int) < 16 := by omega
          clear hlt hj
          go_wp2_with fail
          refine (A.out _).mono ?_
          rintro e w3 ⟨rfl, hb3⟩
          have B3 := Lib.hid (BR.out.trans (hb3.mono BR.out.size))
          clear hb3
          go_wp2_with fail
          go_ret
          exact ⟨rfl, B3.out⟩
  · have t3 : ((key.size : Int) != 32) = true := by simp; omega
    clear h3
    go_enter Try.func11, Try.ntmps11
    go_wp2_with fail
    refine (A.out _).mono ?_
    rintro e w1 ⟨rfl, hb1⟩
    go_wp2_with fail
    go_ret
    exact ⟨rfl, hb1⟩

theorem wpList_conv_u8 {w : World} {ops : Array Oper} {rest : List Oper} {o : Oper} {a : Act} {Q : Exit → Act → World → Prop} (hgd : o.guard = none) (x : Operand) (ho : o.op = .convert 37 9 x) (g N c : Nat) (l : List UInt8) (s : ByteArray)
    (hx : a.eval x = .slice (some ⟨g, 0, none⟩) N c) (hb : w.heap[g]? = some (.cells (vls l).toArray 5 (0, 0))) (hl : l.length = N) (hs : bs l = s)
    (h : wpList Try.prog ops Q rest (a.put o.dst (.string s)) w) : wpList Try.prog ops Q (o :: rest) a w := by
  subst hs
  refine wpList_plain hgd fun K hK => ?_
  have hc : (convert 37 9 (.slice (some ⟨g, 0, none⟩) N c)).run Try.prog w = .ok (.string (bs l)) w := by
    refine run_bytes_to_string w 37 9 5 Try.underlying37 Try.underlying5 Try.underlying9 g 0 N c l hl (fun j hj => ?_)
    rw [Nat.zero_add, cell_of_row w g j _ _ _ hb]
    simp [vls, valB, hj]
  unfold Oper.wp execOp
  simp only [ho, hx, Sem.run_bind, Sem.run_pure, Result.andThen_ok, hc]
  exact hK _ _ h
theorem small_key : ls (ByteArray.mk #[1] ++ bs (List.replicate 31 0)) = 1 :: List.replicate 31 0 := by rw [ls_append, ls_bs]; rfl
theorem small_tag (s : ByteArray) : s ++ ByteArray.mk #[1] ++ bs (List.replicate (15 - s.size) 0) = bs (ls s ++ 1 :: List.replicate (15 - s.size) 0) := by
  apply ls_inj
  rw [ls_append, ls_append, ls_bs, ls_bs, List.append_assoc]
  rfl

set_option maxRecDepth 100000 in
set_option maxHeartbeats 2000000 in
theorem polysmall_any (s : ByteArray) (w : World) :
    Calls Try.prog 12 #[.string s] w fun e w' => e = .returned (.bool true) ∧ Below w.heap.size w w' := by
  have A := Lib.hid (fun w => awake06_any w)
  by_cases h0 : s.size = 0
  · have t1 : ((s.size : Int) == 0) = true := beq_iff_eq.2 (by omega)
    clear h0
    go_enter Try.func12, Try.ntmps12
    go_wp2_with fail
    refine (A.out _).mono ?_
    rintro e w1 ⟨rfl, hb1⟩
    go_wp2_with fail
    go_ret
    exact ⟨rfl, hb1⟩
  · have t1 : ((s.size : Int) == 0) = false := beq_eq_false_iff_ne.2 (by omega)
    by_cases h15 : s.size > 15
    · have t2 : (s.size : Int) > 15 := by omega
      clear h0 h15
      go_enter Try.func12, Try.ntmps12
      go_wp2_with fail
      refine (A.out _).mono ?_
      rintro e w1 ⟨rfl, hb1⟩
      go_wp2_with fail
      go_ret
      exact ⟨rfl, hb1⟩
    · have t2 : ¬ (s.size : Int) > 15 := by omega
      have Y := Lib.hid (fun w => tag_yes (ByteArray.mk #[1] ++ bs (List.replicate 31 0)) s w (by rw [ByteArray.size_append, size_bs, List.length_replicate]; rfl) (by omega))
      rw [tag_small _ s small_key (by omega) (by omega), ← small_tag] at Y
      obtain ⟨n, hn⟩ : ∃ n, 15 - s.size = n := ⟨_, rfl⟩
      rw [hn] at Y
      have e15 : (15 : Int) - (s.size : Int) = (n : Int) := by omega
      have n1 : (n : Int) ≤ 15 := by omega
      have n0 : (0 : Int) ≤ (n : Int) := by omega
      obtain ⟨zz, ezz⟩ : ∃ t, bs (List.replicate 31 0) = t := ⟨_, rfl⟩
      obtain ⟨zn, ezn⟩ : ∃ t, bs (List.replicate n 0) = t := ⟨_, rfl⟩
      have z31 : (zz.size : Int) = 31 := by rw [← ezz]; rfl
      have zns : (zn.size : Int) = (n : Int) := by rw [← ezn, size_bs, List.length_replicate]
      rw [ezz] at Y
      have HZZ := Lib.hid ezz
      rw [ezn] at Y
      have hmk := fun w => run_make_u8 w n (by omega)
      have hcv := fun w => conv_zeros w n
      rw [ezn] at hcv
      have HMK := Lib.hid hmk
      have HCV := Lib.hid hcv
      have s15 : (s.size : Int) ≤ 15 := by omega
      clear h0 h15 ezz ezn hmk hcv hn
      go_enter Try.func12, Try.ntmps12
      have HB0 := Lib.hid (MapKept.heap_alloc w (.cells (vls (List.replicate 31 0)).toArray 5 (0, 0))).1
      go_wp2_with (first
        | (refine wpList_make_u8 rfl (.const (.int .i64 31)) (.const (.int .i64 31)) rfl 31 rfl rfl (by decide) ?_)
        | (refine wpList_conv_u8 rfl (.tmp 15) rfl w.heap.size 31 31 (List.replicate 31 0) zz rfl HB0.out (by simp) HZZ.out ?_))
      have B0 := Lib.hid (below_alloc (Below.refl w.heap.size w) (.cells (vls (List.replicate 31 0)).toArray 5 (0, 0)))
      refine (Y.out _).mono ?_
      rintro e w2 ⟨rfl, hb2⟩
      have B2 := Lib.hid (B0.out.trans (hb2.mono B0.out.size))
      have hmk := HMK.out
      have hcv := HCV.out
      clear hb2 Y
      go_wp2_with fail
      refine (A.out _).mono ?_
      rintro e w3 ⟨rfl, hb3⟩
      have B3 := Lib.hid (((below_alloc B2.out _)).trans (hb3.mono (below_alloc B2.out _).size))
      clear hb3
      go_wp2_with fail
      go_ret
      exact ⟨rfl, B3.out⟩
end Go.Proofs.Ytkfacnegfkgcgaa
