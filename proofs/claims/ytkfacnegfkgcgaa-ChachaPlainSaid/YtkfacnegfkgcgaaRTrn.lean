/-
  mailsackref05.Turn: the walk; chacha.Turn, refused.
-/
import Derived.Test.YtkfacnegfkgcgaaTrnB
import Derived.Lib.SmallJoins
namespace Go.Proofs.Ytkfacnegfkgcgaa
open Go.RowKit MS

set_option maxHeartbeats 400000 in
theorem turn_no (key nonce : ByteArray) (c : Int) (s : ByteArray) (h : key.size ≠ 32 ∨ nonce.size ≠ 12) (w : World) :
    Calls Try.prog 23 #[.string key, .string nonce, .int .u32 c, .string s] w fun e w' => e = .returned (.tuple #[.string ⟨#[]⟩, .bool false]) ∧ Below w.heap.size w w' := by
  have H := Lib.hid (begin_no key nonce c h)
  clear h
  go_enter Try.func23, Try.ntmps23
  go_wp2_with fail
  refine (H.out _).mono ?_
  rintro e w1 ⟨rfl, hb1⟩
  go_wp2_with fail
  go_ret2
  refine ⟨rfl, ?_⟩
  repeat (first | (with_reducible exact Below.refl _ _) | (with_reducible refine below_setCell ?_ (by simp) _) | (with_reducible apply below_alloc) | (with_reducible refine below_chain ?_ hb1))

theorem wpAny_tail {P : Program} {md : Region.Mode} {Q : Exit → Act → World → Prop} {l : List Oper} {listed : Array Bool} {a : Act} {w : World} (n g : Nat) (hB : Region.seqB md l.toArray g n listed = true) (hg : (l.drop n).length = g)
    (h : wpList P l.toArray Q (l.drop n) a w) : wpAny P md l.toArray Q g listed a w := by
  subst hg
  exact wpAny_of_seq (l.drop n) n listed a w (fun j => by simp [List.getElem?_drop]) hB h

theorem conv_nil (w : World) : (convert 37 9 (.slice none 0 0)).run Try.prog w = .ok (.string ⟨#[]⟩) w := by
  rw [run_convert_bytes_string w 37 9 5 _ _ _ Try.underlying37 Try.underlying5 Try.underlying9]
  simp [Conv.bytesToString, Sem.run_pure]
  rfl
/-- The first m blocks of the stream. -/
def sl (k n : ByteArray) (c : W32) (m : Nat) : List UInt8 := (List.range (64 * m)).map (ks k n c)
theorem length_sl (k n : ByteArray) (c : W32) (m : Nat) : (sl k n c m).length = 64 * m := by simp [sl]
theorem length_blkB (S : Array W32) : (ls (blkB S)).length = 64 := by
  have := size_orow (zz (drs 10 S) S) 16
  rw [show orow (zz (drs 10 S) S) 16 = blk S from rfl, blk_blkB] at this
  simpa using this
theorem size_blkB (S : Array W32) : (blkB S).size = 64 := by
  have h := length_blkB S
  generalize blkB S = b at h
  exact h
theorem sl_succ (k n : ByteArray) (c : W32) (m : Nat) : bs (sl k n c m) ++ blkB (iw k n (c + BitVec.ofNat 32 m)) = bs (sl k n c (m + 1)) := by
  apply ls_inj
  rw [ls_append, ls_bs, ls_bs]
  apply List.ext_getElem?
  intro i
  have hb := length_blkB (iw k n (c + BitVec.ofNat 32 m))
  rw [List.getElem?_append, length_sl]
  by_cases h : i < 64 * m
  · rw [if_pos h]
    simp [sl, h, show i < 64 * (m + 1) by omega]
  · rw [if_neg h]
    by_cases h2 : i < 64 * (m + 1)
    · obtain ⟨j, rfl⟩ : ∃ j, i = 64 * m + j := ⟨i - 64 * m, by omega⟩
      simp [sl, h2, ks_at k n c m j (by omega), hb, show j < 64 by omega]
    · rw [List.getElem?_eq_none (by omega), List.getElem?_eq_none (by rw [length_sl]; omega)]
def pre (l : List UInt8) (f : Nat → UInt8) (j : Nat) : List UInt8 := (List.range j).map fun i => l.getD i 0 ^^^ f i
theorem pre_succ (l : List UInt8) (f : Nat → UInt8) (j : Nat) : pre l f (j + 1) = pre l f j ++ [l.getD j 0 ^^^ f j] := by
  simp [pre, List.range_succ]
theorem ls_get (s : ByteArray) (j : Nat) (h : j < s.size) : s[j]'h = (ls s).getD j 0 := by
  have hl : j < s.data.toList.length := by simpa using h
  unfold ls
  rw [List.getD_eq_getElem?_getD, List.getElem?_eq_getElem hl]
  rfl
theorem strm_byte (k n : ByteArray) (c : W32) (m : Nat) (b : ByteArray) (hb : b = bs (sl k n c m)) (j : Nat) (h : j < b.size) : b[j]'h = ks k n c j := by
  rw [ls_get b j h]
  subst hb
  rw [size_bs, length_sl] at h
  rw [ls_bs, sl]
  generalize ks k n c = f
  simp [h]
def strLen : Value → Nat
  | .string b => b.size
  | _ => 0

attribute [local go_sem] w_succ b_xor
set_option maxRecDepth 100000 in
set_option maxHeartbeats 500000 in
theorem rturn (k n : ByteArray) (c : W32) (s : ByteArray) (w : World) (hk : k.size = 32) (hn : n.size = 12) (hs : s.size ≤ 10000) :
    Calls Try.prog 24 #[.string k, .string n, .int .u32 (wv c), .string s] w fun e w' => e = .returned (.string (bs (trn (ls s) (ks k n c)))) ∧ Below w.heap.size w w' := by
  obtain ⟨i8, hj0, hy0, hy1, hy2⟩ : ∃ i, Try.prog.info? 5 = some i ∧ i.zero = some (.int .u8 0) ∧ i.size = 1 ∧ i.bytes = 1 := ⟨_, rfl, rfl, rfl, rfl⟩
  have R := Lib.hid (fun c w => rblock k n c w hk hn)
  have HS := Lib.hid hs
  clear hk hn hs
  go_enter Try.func24, Try.ntmps24
  go_wp2_with fail
  go_loopw [2, 9] (fun cv st wr => ∃ (m : Nat) (b : ByteArray), cv = .int .u32 (wv (c + BitVec.ofNat 32 m)) ∧ st = .string b ∧ b = bs (sl k n c m) ∧ (m = 0 ∨ 64 * m < s.size + 64) ∧ Below w.heap.size w wr) (fun _ st _ => s.size - strLen st)
  case atStart => exact ⟨0, bs (sl k n c 0), by rw [show c + BitVec.ofNat 32 0 = c from BitVec.add_zero c], rfl, rfl, .inl rfl, Below.refl _ _⟩
  case round =>
    obtain ⟨m, b, rfl, rfl, hb, hm, bel⟩ := hrel
    have hbs : b.size = 64 * m := by
      have : (ls b).length = 64 * m := by rw [hb, ls_bs, length_sl]
      exact this
    have HB := Lib.hid hb
    have HBL := Lib.hid bel
    have HM := Lib.hid hm
    have HBS := Lib.hid hbs
    clear hb bel hm
    by_cases hlt : 64 * m < s.size
    · have hi : (b.size : Int) < s.size := by omega
      clear hbs
      go_wp2_with fail
      refine (R.out _ _).mono ?_
      rintro e w2 ⟨rfl, hb2⟩
      have h64 : (blkB (iw k n (c + BitVec.ofNat 32 m))).size = 64 := size_blkB _
      have hsum : b.size + (blkB (iw k n (c + BitVec.ofNat 32 m))).size ≤ 9223372036854775807 := by have := HS.out; have := HBS.out; omega
      have HB2 := Lib.hid hb2
      generalize hbk : blkB (iw k n (c + BitVec.ofNat 32 m)) = bk at h64 hsum
      have HBK := Lib.hid hbk
      clear hb2 hbk
      go_wp2_with fail
      go_roundw
      case rel =>
        exact ⟨m + 1, b ++ bk, by rw [w_succ, count_up], rfl, by rw [HB.out, ← HBK.out, sl_succ], .inr (by omega), HBL.out.trans (HB2.out.mono HBL.out.size)⟩
      case measure =>
        show s.size - (b ++ bk).size < s.size - b.size
        rw [ByteArray.size_append]
        omega
    · have hi : ¬ ((b.size : Int) < s.size) := by omega
      have hle : s.size ≤ b.size := by omega
      have HLE := Lib.hid hle
      clear hbs hlt hle
      go_wp2_with fail
      go_loopw [10, 11] (fun v i wr => ∃ j : Nat, j ≤ s.size ∧ i = .int .i64 j ∧ wr.ownsRow w.heap.size 5 1 v j (vls (pre (ls s) (ks k n c) j)) ∧ (j = 0 → v = .slice none 0 0) ∧ Below w.heap.size w wr) (fun _ i _ => s.size - (intOf i).toNat)
      case atStart => exact ⟨0, by omega, rfl, ⟨rfl, .inl ⟨rfl, rfl⟩⟩, fun _ => rfl, HBL.out⟩
      case round =>
        obtain ⟨j, hj, rfl, hown, hnil, hnx⟩ := hrel
        have HNIL := Lib.hid hnil
        clear hnil
        have HOWN := Lib.hid hown
        have HNX := Lib.hid hnx
        clear hown hnx hi
        by_cases hjN : j < s.size
        · have ji : (j : Int) < s.size := Int.ofNat_lt.2 hjN
          have hjb : j < b.size := Nat.lt_of_lt_of_le hjN HLE.out
          have jb : (j : Int) < b.size := Int.ofNat_lt.2 hjb
          have jn : (0 : Int) ≤ j := Int.natCast_nonneg j
          have jw : (j : Int) < 10000 := by have := HS.out; omega
          have HJN := Lib.hid hjN
          have HJB := Lib.hid hjb
          clear hjb
          go_wp2_with fail
          refine wp_region_any (by kernel_rfl) ?_
          change wpAny _ _ _ _ _ _ _ (World.drew _)
          refine wpAny_take_at (i := 0) (d := 31) (v := u10) rfl (by kernel_rfl) (by kernel_rfl) (by kernel_rfl) (fun _ _ _ h => h) rfl (Or.inl ⟨by rfl, by intro w; go_simp⟩) ?_
          simp only [Act.put, List.setIfInBounds_toArray, List.set_cons_zero, List.set_cons_succ]
          refine wpAny_quiet_mid (fun w' => ∃ k, w' = wr.drewN k) #[true, true, true, true, true, true, true, true, false, false, false] 1 7 3 (by kernel_rfl) (by kernel_rfl) (by kernel_rfl) (by kernel_rfl) rfl ⟨1, rfl⟩ ?_
          simp only [List.take_succ_cons, List.take_zero, List.drop_succ_cons, List.drop_zero]
          repeat (go_big_quiet_step (fail))
          refine wpQuiet_nil ?_
          intro _ hw'
          obtain ⟨kk, hw''⟩ := hw'
          subst hw''
          refine wpAny_tail 8 3 (by kernel_rfl) rfl ?_
          simp only [List.drop_succ_cons, List.drop_zero]
          have HBQ := Lib.hid (show Below _ _ (wr.drewN kk) from ⟨HNX.out.os, HNX.out.tape, HNX.out.output, HNX.out.size, HNX.out.block⟩)
          have HOQ := Lib.hid (show (wr.drewN kk).ownsRow _ _ _ _ _ _ from HOWN.out)
          have hs0 : _ ≤ (wr.drewN kk).heap.size := HNX.out.size
          generalize wr.drewN kk = wq at HBQ HOQ hs0 ⊢
          have HA := Lib.hid (HOQ.out.alloc (.cells #[.int .u8 ((s[j]'hjN ^^^ b[j]'HJB.out).toNat : Int)] 5 (0, 0)))
          have HM := Lib.hid (show j + 1 ≤ maxLen by have := HS.out; unfold maxLen; omega)
          have HN := Lib.hid (show (j + 1) * 1 ≤ 140737488355328 by have := HS.out; omega)
          have hxv : Value.int .u8 (((s[j]'hjN).toNat ^^^ (b[j]'HJB.out).toNat : Nat) : Int) = Value.int .u8 ((s[j]'hjN ^^^ b[j]'HJB.out).toNat : Int) := by simp
          rw [hxv]
          have hnew : s[j]'hjN ^^^ b[j]'HJB.out = (ls s).getD j 0 ^^^ ks k n c j := by
            rw [ls_get s j hjN, strm_byte k n c m b HB.out j HJB.out]
          generalize s[j]'hjN ^^^ b[j]'HJB.out = x at HA hnew ⊢
          have HNEW := Lib.hid hnew
          clear hxv hnew
          go_wp2_with (at_builtin; refine wpList_append_own _ rfl (.tmp 31) (.tmp 39) 37 rfl _ 5 i8 (.int .u8 0) 1 1 Try.underlying37 hj0 hy0 hy1 hy2 rfl (by decide) _ _ _ rfl HA.out ⟨wq.heap.size, 0, none⟩ 1 1 [.int .u8 (x.toNat : Int)] rfl rfl (one_cell wq _ _) (one_one _ rfl) HM.out HN.out (le_alloc hs0 _) ?_)
          intro v1 w1 h1 h2 h3
          have HB1 := Lib.hid (below_app HBQ.out _ _ _ _ _ HOQ.out h2)
          have HO1 := Lib.hid h1
          clear h1 h2 h3 hs0
          go_wp2_with fail
          go_roundw
          case rel =>
            refine ⟨j + 1, by omega, by go_num, ?_, fun h => by omega, HB1.out⟩
            rw [pre_succ, vls_app, ← HNEW.out]
            exact HO1.out
          case measure => simp [intOf]; omega
        · have ji : ¬ ((j : Int) < s.size) := by omega
          have hjs : j = s.size := by omega
          have htr : pre (ls s) (ks k n c) s.size = trn (ls s) (ks k n c) := by rw [pre, trn, length_ls]
          have HL := Lib.hid HNX.out
          by_cases h0 : s.size = 0
          · obtain rfl := HNIL.out (by omega)
            have he : bs (trn (ls s) (ks k n c)) = ⟨#[]⟩ := by
              rw [← htr, h0]
              rfl
            have HE := Lib.hid he
            have hcv := conv_nil wr
            clear he htr h0 hjs HOWN HNX HNIL
            go_wp2_with fail
            go_ret
            exact ⟨by rw [HE.out]; rfl, HL.out⟩
          · have HO6 := HOWN.out
            rw [hjs, htr] at HO6
            obtain ⟨go, capo, rfl, _, _⟩ := HO6.form (by omega)
            have hcv := conv_out (trn (ls s) (ks k n c)) s.size (by rw [length_trn, length_ls]) HO6
            clear HO6 hjs htr HOWN HNX HNIL h0 hjN
            go_wp2_with fail
            go_ret
            exact ⟨rfl, HL.out⟩
end Go.Proofs.Ytkfacnegfkgcgaa
