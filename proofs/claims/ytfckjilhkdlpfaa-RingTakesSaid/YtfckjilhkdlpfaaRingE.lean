/-
  The plain law of an account's bytes: what is written is taken back; what is taken is written as it was.
-/
import Derived.Test.YtfckjilhkdlpfaaRingD
namespace Go.Proofs.Ytfckjilhkdlpfaa
open Go.RowKit MS

theorem drop_take_mid (A B C : List UInt8) (n m : Nat) (hn : A.length = n) (hm : B.length = m) : ((A ++ (B ++ C)).drop n).take (n + m - n) = B := by
  subst hn; subst hm
  rw [List.drop_left, Nat.add_sub_cancel_left, List.take_left]
theorem getD_mid (A : List UInt8) (b : UInt8) (C : List UInt8) (n : Nat) (hn : A.length = n) : (A ++ (b :: C)).getD n 0 = b := by
  subst hn; simp [List.getD_eq_getElem?_getD]

theorem ls_put (a : Acc) : ls a.put = UInt8.ofNat a.user.size :: (ls a.user ++ (ls a.salt ++ (UInt8.ofNat a.rounds.toNat :: UInt8.ofNat a.epoch.toNat :: (ls a.pub ++ (ls a.nonce ++ (ls a.wrapped ++ ls a.old)))))) := by
  unfold Acc.put
  simp only [ls_append, ls_bs]
  simp
theorem put_size (a : Acc) (h : a.fits) : a.put.size = 111 + a.user.size + a.old.size := by
  rw [← length_ls, ls_put]
  simp only [List.length_cons, List.length_append, length_ls, h.salt, h.pub, h.nonce, h.wrapped]
  omega
theorem extract_mid {s : ByteArray} {A B C : List UInt8} {n m : Nat} (hs : ls s = A ++ (B ++ C)) (hn : A.length = n) (hm : B.length = m) : ls (s.extract n (n + m)) = B := by
  rw [ls_extract, hs, drop_take_mid A B C n m hn hm]

theorem takeAcc_put (a : Acc) (h : a.fits) : takeAcc a.put a.user.size = a := by
  have L := ls_put a
  obtain ⟨user, salt, rounds, epoch, pub, nonce, wrapped, old⟩ := a
  obtain ⟨h1, h2, h3, h4, h5, h6, h7, h8, h9, h10⟩ := h
  simp only at *
  generalize (⟨user, salt, rounds, epoch, pub, nonce, wrapped, old⟩ : Acc).put = s at *
  generalize hU : UInt8.ofNat user.size = U at L
  generalize hR : UInt8.ofNat rounds.toNat = R at L
  generalize hE : UInt8.ofNat epoch.toNat = E at L
  have l1 : (ls user).length = user.size := length_ls _
  have l2 : (ls salt).length = 16 := by rw [length_ls, h3]
  have l3 : (ls pub).length = 32 := by rw [length_ls, h7]
  have l4 : (ls nonce).length = 12 := by rw [length_ls, h8]
  have l5 : (ls wrapped).length = 48 := by rw [length_ls, h9]
  unfold takeAcc
  have e1 : s.extract 1 (1 + user.size) = user := ls_inj (extract_mid (A := [U]) (C := ls salt ++ R :: E :: (ls pub ++ (ls nonce ++ (ls wrapped ++ ls old)))) (by rw [L]; rfl) rfl l1)
  have e2 : s.extract (1 + user.size) (1 + user.size + 16) = salt := ls_inj (extract_mid (A := U :: ls user) (C := R :: E :: (ls pub ++ (ls nonce ++ (ls wrapped ++ ls old)))) (by rw [L]; simp) (by simp [l1]; omega) l2)
  have e3 : (ls s).getD (1 + user.size + 16) 0 = R := by
    rw [L, show U :: (ls user ++ (ls salt ++ R :: E :: (ls pub ++ (ls nonce ++ (ls wrapped ++ ls old))))) = (U :: (ls user ++ ls salt)) ++ (R :: E :: (ls pub ++ (ls nonce ++ (ls wrapped ++ ls old)))) by simp]
    exact getD_mid _ _ _ _ (by simp [l1, l2]; omega)
  have e4 : (ls s).getD (1 + user.size + 16 + 1) 0 = E := by
    rw [L, show U :: (ls user ++ (ls salt ++ R :: E :: (ls pub ++ (ls nonce ++ (ls wrapped ++ ls old))))) = (U :: (ls user ++ (ls salt ++ [R]))) ++ (E :: (ls pub ++ (ls nonce ++ (ls wrapped ++ ls old)))) by simp]
    exact getD_mid _ _ _ _ (by simp [l1, l2]; omega)
  have e5 : s.extract (1 + user.size + 16 + 1 + 1) (1 + user.size + 16 + 1 + 1 + 32) = pub := ls_inj (extract_mid (A := U :: (ls user ++ (ls salt ++ [R, E]))) (C := ls nonce ++ (ls wrapped ++ ls old)) (by rw [L]; simp) (by simp [l1, l2]; omega) l3)
  have e6 : s.extract (1 + user.size + 16 + 1 + 1 + 32) (1 + user.size + 16 + 1 + 1 + 32 + 12) = nonce := ls_inj (extract_mid (A := U :: (ls user ++ (ls salt ++ R :: E :: ls pub))) (C := ls wrapped ++ ls old) (by rw [L]; simp) (by simp [l1, l2, l3]; omega) l4)
  have e7 : s.extract (1 + user.size + 16 + 1 + 1 + 32 + 12) (1 + user.size + 16 + 1 + 1 + 32 + 12 + 48) = wrapped := ls_inj (extract_mid (A := U :: (ls user ++ (ls salt ++ R :: E :: (ls pub ++ ls nonce)))) (C := ls old) (by rw [L]; simp) (by simp [l1, l2, l3, l4]; omega) l5)
  have e8 : s.extract (1 + user.size + 16 + 1 + 1 + 32 + 12 + 48) s.size = old := by
    have hz : s.size = 1 + user.size + 16 + 1 + 1 + 32 + 12 + 48 + old.size := by
      rw [← length_ls, L]
      simp only [List.length_cons, List.length_append, l1, l2, l3, l4, l5, length_ls]
      omega
    have := extract_mid (s := s) (A := U :: (ls user ++ (ls salt ++ R :: E :: (ls pub ++ (ls nonce ++ ls wrapped))))) (B := ls old) (C := []) (by rw [L]; simp) (n := 1 + user.size + 16 + 1 + 1 + 32 + 12 + 48) (by simp [l1, l2, l3, l4, l5]; omega) (length_ls old)
    rw [← hz] at this
    exact ls_inj this
  have hr : ((R.toNat : Nat) : Int) = rounds := by rw [← hR]; exact u8_of rounds (by omega) (by omega)
  have he : ((E.toNat : Nat) : Int) = epoch := by rw [← hE]; exact u8_of epoch (by omega) (by omega)
  simp only [e1, e2, e3, e4, e5, e6, e7, e8, hr, he]

theorem drop_join (L : List UInt8) (p n : Nat) : (L.drop p).take (p + n - p) ++ L.drop (p + n) = L.drop p := by
  rw [Nat.add_sub_cancel_left, ← List.drop_drop, List.take_append_drop]
theorem drop_one (L : List UInt8) (p : Nat) (h : p < L.length) : L.getD p 0 :: L.drop (p + 1) = L.drop p := by
  rw [List.getD_eq_getElem?_getD, List.getElem?_eq_getElem h, Option.getD_some, ← List.drop_eq_getElem_cons h]

theorem put_takeAcc (s : ByteArray) (k : Nat) (h0 : 0 < s.size) (hk : (s[0]'h0).toNat = k) (hl : 111 + k ≤ s.size) : (takeAcc s k).put = s := by
  apply ls_inj
  rw [ls_put]
  have hk' : k ≤ 255 := by have := (s[0]'h0).toNat_lt; omega
  have hu : (takeAcc s k).user.size = k := by
    show (s.extract 1 (1 + k)).size = k
    rw [ByteArray.size_extract]; omega
  rw [hu]
  have hz : s.size = (ls s).length := (length_ls s).symm
  simp only [takeAcc]
  rw [Int.toNat_natCast, Int.toNat_natCast, UInt8.ofNat_toNat, UInt8.ofNat_toNat]
  simp only [ls_extract]
  have e0 : (ls s).getD 0 0 = UInt8.ofNat k := by
    rw [List.getD_eq_getElem?_getD, List.getElem?_eq_getElem (by omega), Option.getD_some, ← get_ls s 0 h0, ← hk, UInt8.ofNat_toNat]
  have hd : ((ls s).drop (1 + k + 16 + 1 + 1 + 32 + 12 + 48)).take (s.size - (1 + k + 16 + 1 + 1 + 32 + 12 + 48)) = (ls s).drop (1 + k + 16 + 1 + 1 + 32 + 12 + 48) := List.take_of_length_le (by rw [List.length_drop]; omega)
  rw [hd, drop_join, drop_join, drop_join, drop_one _ _ (by omega), drop_one _ _ (by omega), drop_join, drop_join, ← e0]
  exact drop_one (ls s) 0 (by omega)

/-- Of an account that was taken the user has as many bytes as the first one says. -/
theorem takeAcc_user (s : ByteArray) (k : Nat) (hl : 111 + k ≤ s.size) : (takeAcc s k).user.size = k := by
  show (s.extract 1 (1 + k)).size = k
  rw [ByteArray.size_extract]; omega
end Go.Proofs.Ytfckjilhkdlpfaa
