/-
  The rounds over a row of 16 words: chacha.turn and mailsackref05.quarter in one word.
-/
import Derived.Test.YtkfacnegfkgcgaaTurnA
namespace Go.Proofs.Ytkfacnegfkgcgaa
open Go.RowKit MS

def rowW (s : Array W32) : Array Value := s.map (fun x => .int .u32 (wv x))
def qr (s : Array W32) (i j k l : Nat) : Array W32 :=
  (((s.setIfInBounds i (qa (s.getD i 0) (s.getD j 0) (s.getD k 0) (s.getD l 0))).setIfInBounds j (qb (s.getD i 0) (s.getD j 0) (s.getD k 0) (s.getD l 0))).setIfInBounds k (qc (s.getD i 0) (s.getD j 0) (s.getD k 0) (s.getD l 0))).setIfInBounds l (qd (s.getD i 0) (s.getD j 0) (s.getD k 0) (s.getD l 0))

theorem size_rowW (s : Array W32) : (rowW s).size = s.size := by simp [rowW]
theorem size_qr (s : Array W32) (i j k l : Nat) : (qr s i j k l).size = s.size := by simp [qr]
theorem rowW_set (s : Array W32) (i : Nat) (x : W32) : (rowW s).setIfInBounds i (.int .u32 (wv x)) = rowW (s.setIfInBounds i x) := by
  simp [rowW, Array.map_setIfInBounds]
theorem set_getD (s : Array W32) (i : Nat) : s.setIfInBounds i (s.getD i 0) = s := by
  apply Array.ext_getElem?
  intro j
  by_cases h : i = j
  · subst h
    by_cases hi : i < s.size
    · simp [hi]
    · simp [hi]
  · simp [h]
theorem upd_self (s : Array W32) (i j k l : Nat) : upd (rowW s) i j k l (s.getD i 0) (s.getD j 0) (s.getD k 0) (s.getD l 0) = rowW s := by
  unfold upd
  rw [rowW_set, set_getD, rowW_set, set_getD, rowW_set, set_getD, rowW_set, set_getD]
theorem upd_qr (s : Array W32) (i j k l : Nat) (a b c d : W32) : upd (rowW s) i j k l a b c d = rowW ((((s.setIfInBounds i a).setIfInBounds j b).setIfInBounds k c).setIfInBounds l d) := by
  unfold upd
  rw [rowW_set, rowW_set, rowW_set, rowW_set]

theorem turn16 (b T i j k l : Nat) (s : Array W32) (w : World) (hs : s.size = 16) (h : i ≠ j ∧ i ≠ k ∧ i ≠ l ∧ j ≠ k ∧ j ≠ l ∧ k ≠ l ∧ i < 16 ∧ j < 16 ∧ k < 16 ∧ l < 16) (hr : w.heap[b]? = some (.cells (rowW s) T (0, 0))) :
    Calls Try.prog 53 #[.pointer (some ⟨b, 0, none⟩), .int .i64 i, .int .i64 j, .int .i64 k, .int .i64 l] w fun e w' => e = .returned (.tuple #[]) ∧ w.grownBy w' (some b) ∧ w'.heap[b]? = some (.cells (rowW (qr s i j k l)) T (0, 0)) := by
  obtain ⟨h1, h2, h3, h4, h5, h6, h7, h8, h9, h10⟩ := h
  have := turn_upd b T i j k l (rowW s) (s.getD i 0) (s.getD j 0) (s.getD k 0) (s.getD l 0) w (by rw [size_rowW, hs]) h1 h2 h3 h4 h5 h6 h7 h8 h9 h10 (by rw [upd_self]; exact hr)
  rwa [upd_qr] at this

theorem rq16 (b C T i j k l : Nat) (s : Array W32) (w : World) (hs : s.size = 16) (h : i ≠ j ∧ i ≠ k ∧ i ≠ l ∧ j ≠ k ∧ j ≠ l ∧ k ≠ l ∧ i < 16 ∧ j < 16 ∧ k < 16 ∧ l < 16) (hr : w.heap[b]? = some (.cells (rowW s) T (0, 0))) :
    Calls Try.prog 34 #[.slice (some ⟨b, 0, none⟩) 16 C, .int .i64 i, .int .i64 j, .int .i64 k, .int .i64 l] w fun e w' => e = .returned (.tuple #[]) ∧ w.grownBy w' (some b) ∧ w'.heap[b]? = some (.cells (rowW (qr s i j k l)) T (0, 0)) := by
  obtain ⟨h1, h2, h3, h4, h5, h6, h7, h8, h9, h10⟩ := h
  have hz : (rowW s).size = 16 := by rw [size_rowW, hs]
  have := rq_any b C T i j k l (rowW s) (s.getD i 0) (s.getD j 0) (s.getD k 0) (s.getD l 0) w h1 h2 h3 h4 h5 h6 (by omega) (by omega) (by omega) (by omega) (by rw [upd_self]; exact hr)
  rw [hz, upd_qr] at this
  exact this

/-- A double round. -/
def dr (s : Array W32) : Array W32 :=
  qr (qr (qr (qr (qr (qr (qr (qr s 0 4 8 12) 1 5 9 13) 2 6 10 14) 3 7 11 15) 0 5 10 15) 1 6 11 12) 2 7 8 13) 3 4 9 14
theorem size_dr (s : Array W32) : (dr s).size = s.size := by simp only [dr, size_qr]
def drs : Nat → Array W32 → Array W32
  | 0, s => s
  | n + 1, s => dr (drs n s)
theorem size_drs (n : Nat) (s : Array W32) : (drs n s).size = s.size := by
  induction n with
  | zero => rfl
  | succ n ih => rw [drs, size_dr, ih]
end Go.Proofs.Ytkfacnegfkgcgaa
