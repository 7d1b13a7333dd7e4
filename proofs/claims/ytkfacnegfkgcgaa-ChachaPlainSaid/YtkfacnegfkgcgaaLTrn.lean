/-
  mailsacklaw05.ChachaTurns, ChachaTwice: the walks.
-/
import Derived.Test.YtkfacnegfkgcgaaRTrn
namespace Go.Proofs.Ytkfacnegfkgcgaa
open Go.RowKit MS

theorem trn_trn (l : List UInt8) (f : Nat → UInt8) : trn (trn l f) f = l := by
  apply List.ext_getElem?
  intro i
  by_cases h : i < l.length
  · have : i < (trn l f).length := by rw [length_trn]; exact h
    rw [trn, List.getElem?_map, List.getElem?_range this, Option.map_some, List.getElem?_eq_getElem h]
    have e : (trn l f).getD i 0 = l[i] ^^^ f i := by simp [trn, h]
    rw [e, UInt8.xor_assoc, UInt8.xor_self, UInt8.xor_zero]
  · rw [List.getElem?_eq_none (by rw [length_trn, length_trn]; omega), List.getElem?_eq_none (by omega)]
theorem turn_back (s : ByteArray) (f : Nat → UInt8) : bs (trn (ls (bs (trn (ls s) f))) f) = s := by
  rw [ls_bs, trn_trn, bs_ls]
theorem ks_next (k n : ByteArray) (c : W32) (i : Nat) : ks k n (c + 1) i = ks k n c (64 + i) := by
  unfold ks
  have e1 : (64 + i) / 64 = i / 64 + 1 := by omega
  have e2 : (64 + i) % 64 = i % 64 := by omega
  rw [e1, e2, ← count_up, BitVec.add_assoc, BitVec.add_comm 1, ← BitVec.add_assoc]
theorem turn_later (k n : ByteArray) (c : W32) (s : ByteArray) (h : 64 ≤ s.size) :
    bs (trn (ls (s.extract 64 s.size)) (ks k n (c + 1))) = (bs (trn (ls s) (ks k n c))).extract 64 s.size := by
  apply ls_inj
  rw [ls_bs, ls_extract, ls_extract, ls_bs]
  have hl := length_ls s
  apply List.ext_getElem?
  intro i
  have e : ((ls s).drop 64).take (s.size - 64) = (ls s).drop 64 := List.take_of_length_le (by simp [hl])
  have e2 : ((trn (ls s) (ks k n c)).drop 64).take (s.size - 64) = (trn (ls s) (ks k n c)).drop 64 := List.take_of_length_le (by simp [length_trn, hl])
  rw [e, e2, List.getElem?_drop]
  by_cases hi : i < s.size - 64
  · have h1 : i < ((ls s).drop 64).length := by simp [hl]; omega
    have h2 : 64 + i < (ls s).length := by omega
    rw [trn, trn, List.getElem?_map, List.getElem?_map, List.getElem?_range h1, List.getElem?_range h2, Option.map_some, Option.map_some, ks_next]
    congr 2
    simp [List.getD_eq_getElem?_getD]
  · rw [List.getElem?_eq_none (by rw [length_trn]; simp [hl]; omega), List.getElem?_eq_none (by rw [length_trn]; omega)]

set_option maxHeartbeats 800000 in
theorem turns_any (k n : ByteArray) (c : W32) (s : ByteArray) (w : World) :
    Calls Try.prog 6 #[.string k, .string n, .int .u32 (wv c), .string s] w fun e w' => e = .returned (.bool true) ∧ Below w.heap.size w w' := by
  have A := Lib.hid awake05_any
  have N := Lib.hid (fun h w => turn_no k n (wv c) s h w)
  have Y := Lib.hid (fun w h1 h2 => turn_yes k n c s w h1 h2)
  have R := Lib.hid (fun w h1 h2 h3 => rturn k n c s w h1 h2 h3)
  by_cases h1 : k.size > 100
  · have t1 : decide ((k.size : Int) > 100) = true := by simp; omega
    go_enter Try.func6, Try.ntmps6
    go_wp2_with fail
    refine (A.out _).mono ?_
    rintro e w1 ⟨rfl, hb1⟩
    go_wp2_with fail
    go_ret
    exact ⟨rfl, hb1⟩
  · by_cases h2 : n.size > 100
    · have t1 : decide ((n.size : Int) > 100) = true := by simp; omega
      go_enter Try.func6, Try.ntmps6
      go_wp2_with fail
      refine (A.out _).mono ?_
      rintro e w1 ⟨rfl, hb1⟩
      go_wp2_with fail
      go_ret
      exact ⟨rfl, hb1⟩
    · by_cases h3 : s.size > 1024
      · have t1 : decide ((s.size : Int) > 1024) = true := by simp; omega
        go_enter Try.func6, Try.ntmps6
        go_wp2_with fail
        refine (A.out _).mono ?_
        rintro e w1 ⟨rfl, hb1⟩
        go_wp2_with fail
        go_ret
        exact ⟨rfl, hb1⟩
      · by_cases h : k.size ≠ 32 ∨ n.size ≠ 12
        · have H := Lib.hid h
          go_enter Try.func6, Try.ntmps6
          by_cases h1 : k.size = 32
          · have h2 : n.size ≠ 12 := by omega
            have t1 : ((k.size : Int) != 32) = false := by simp; omega
            have t2 : ((n.size : Int) != 12) = true := by simp; omega
            clear h h1 h2
            go_wp2_with fail
            refine (N.out H.out _).mono ?_
            rintro e w1 ⟨rfl, hb1⟩
            go_wp2_with fail
            refine (A.out _).mono ?_
            rintro e w2 ⟨rfl, hb2⟩
            go_wp2_with fail
            go_ret
            exact ⟨rfl, hb1.trans (hb2.mono hb1.size)⟩
          · have t1 : ((k.size : Int) != 32) = true := by simp; omega
            clear h h1
            go_wp2_with fail
            refine (N.out H.out _).mono ?_
            rintro e w1 ⟨rfl, hb1⟩
            go_wp2_with fail
            refine (A.out _).mono ?_
            rintro e w2 ⟨rfl, hb2⟩
            go_wp2_with fail
            go_ret
            exact ⟨rfl, hb1.trans (hb2.mono hb1.size)⟩
        · have H1 := Lib.hid (show k.size = 32 by omega)
          have H2 := Lib.hid (show n.size = 12 by omega)
          have H3 := Lib.hid (show s.size ≤ 10000 by omega)
          have t1 : ((k.size : Int) != 32) = false := by have := H1.out; simp; omega
          have t2 : ((n.size : Int) != 12) = false := by have := H2.out; simp; omega
          clear h
          go_enter Try.func6, Try.ntmps6
          go_wp2_with fail
          refine (Y.out _ H1.out H2.out).mono ?_
          rintro e w1 ⟨rfl, hb1⟩
          go_wp2_with fail
          refine (R.out _ H1.out H2.out H3.out).mono ?_
          rintro e w2 ⟨rfl, hb2⟩
          go_wp2_with fail
          refine (A.out _).mono ?_
          rintro e w3 ⟨rfl, hb3⟩
          go_wp2_with fail
          go_ret
          exact ⟨rfl, (hb1.trans (hb2.mono hb1.size)).trans (hb3.mono (Nat.le_trans hb1.size hb2.size))⟩

set_option maxHeartbeats 800000 in
theorem twice_any (k n : ByteArray) (c : W32) (s : ByteArray) (w : World) :
    Calls Try.prog 7 #[.string k, .string n, .int .u32 (wv c), .string s] w fun e w' => e = .returned (.bool true) ∧ Below w.heap.size w w' := by
  have A := Lib.hid awake05_any
  by_cases h1 : k.size = 32
  · have t1 : ((k.size : Int) != 32) = false := by simp; omega
    have H1 := Lib.hid h1
    clear h1
    by_cases h2 : n.size = 12
    · have t2 : ((n.size : Int) != 12) = false := by simp; omega
      have H2 := Lib.hid h2
      clear h2
      by_cases h3 : s.size > 4096
      · go_enter Try.func7, Try.ntmps7
        go_wp2_with fail
        refine (A.out _).mono ?_
        rintro e w1 ⟨rfl, hb1⟩
        go_wp2_with fail
        go_ret
        exact ⟨rfl, hb1⟩
      · have Y := Lib.hid (fun w => turn_yes k n c s w H1.out H2.out)
        have Y2 := Lib.hid (fun w => turn_yes k n c (bs (trn (ls s) (ks k n c))) w H1.out H2.out)
        have Y3 := Lib.hid (fun w => turn_yes k n (c + 1) (s.extract 64 s.size) w H1.out H2.out)
        rw [turn_back] at Y2
        have hsz : (bs (trn (ls s) (ks k n c))).size = s.size := by rw [size_bs, length_trn, length_ls]
        have HT := Lib.hid (turn_later k n c s)
        generalize hf : ks k n c = f at *
        generalize hT : bs (trn (ls s) f) = T at *
        clear hf hT
        go_enter Try.func7, Try.ntmps7
        go_wp2_with fail
        refine (Y.out _).mono ?_
        rintro e w1 ⟨rfl, hb1⟩
        go_wp2_with fail
        refine (Y2.out _).mono ?_
        rintro e w2 ⟨rfl, hb2⟩
        have HB := Lib.hid (hb1.trans (hb2.mono hb1.size))
        clear hb1 hb2
        by_cases h64 : s.size < 64
        · have hi : (s.size : Int) < 64 := by omega
          go_wp2_with fail
          refine (A.out _).mono ?_
          rintro e w3 ⟨rfl, hb3⟩
          go_wp2_with fail
          go_ret
          exact ⟨rfl, HB.out.trans (hb3.mono HB.out.size)⟩
        · have hi : ¬ ((s.size : Int) < 64) := by omega
          have hT := HT.out (by omega)
          rw [hT] at Y3
          clear hT HT
          go_wp2_with fail
          rw [w_succ]
          refine (Y3.out _).mono ?_
          rintro e w3 ⟨rfl, hb3⟩
          have HB3 := Lib.hid (HB.out.trans (hb3.mono HB.out.size))
          clear hb3
          go_wp2_with fail
          refine (A.out _).mono ?_
          rintro e w4 ⟨rfl, hb4⟩
          go_wp2_with fail
          go_ret
          exact ⟨rfl, HB3.out.trans (hb4.mono HB3.out.size)⟩
    · have t2 : ((n.size : Int) != 12) = true := by simp; omega
      clear h2
      go_enter Try.func7, Try.ntmps7
      go_wp2_with fail
      refine (A.out _).mono ?_
      rintro e w1 ⟨rfl, hb1⟩
      go_wp2_with fail
      go_ret
      exact ⟨rfl, hb1⟩
  · have t1 : ((k.size : Int) != 32) = true := by simp; omega
    clear h1
    go_enter Try.func7, Try.ntmps7
    go_wp2_with fail
    refine (A.out _).mono ?_
    rintro e w1 ⟨rfl, hb1⟩
    go_wp2_with fail
    go_ret
    exact ⟨rfl, hb1⟩
end Go.Proofs.Ytkfacnegfkgcgaa
