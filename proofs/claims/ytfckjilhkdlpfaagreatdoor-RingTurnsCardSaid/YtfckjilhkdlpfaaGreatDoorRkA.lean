/-
  What folder 13 makes of accounts and passwords: the plain law.
-/
import Derived.Test.YtfckjilhkdlpfaaGreatDoorSeBaseZ
namespace Go.Proofs.YtfckjilhkdlpfaaGreatDoor
open Go.RowKit MS

/-- What is drawn for an account: its cells. -/
structure Fre where
  salt : ByteArray
  nonce : ByteArray
  priv : ByteArray
  rounds : Int
def Fre.v (f : Fre) : Value := .agg #[.string f.salt, .string f.nonce, .string f.priv, .int .i64 f.rounds]
/-- All but the private key are right. -/
def Fre.rw (f : Fre) : Bool := rwB f.salt f.nonce f.rounds
def Fre.ok (f : Fre) : Bool := f.rw && f.priv.size == 32
/-- The key that an old one is sealed by. -/
def oldS : ByteArray := ⟨#[111, 108, 100]⟩
def undB (k : ByteArray) : ByteArray := drawB k ⟨#[]⟩ oldS 32
theorem size_undB (k : ByteArray) : (undB k).size = 32 := size_drawB _ _ _ _

/-- The keys of an account, or the error's number. -/
inductive Unl where
  | err (n : Int)
  | one (k : ByteArray)
  | two (k o : ByteArray)
def privU (a : Acc) (pw : ByteArray) : Option ByteArray := openA (pwB pw a.salt a.rounds.toNat) a.nonce (a.user ++ a.pub) a.wrapped
def oldU (a : Acc) (k : ByteArray) : Option ByteArray := openA (undB k) a.nonce a.pub a.old
def unlB (a : Acc) (pw : ByteArray) : Unl :=
  if a.ok = true then match privU a pw with
    | none => .err 10
    | some k => if xB k baseB = a.pub then (if a.old.size = 0 then .one k else match oldU a k with | none => .err 3 | some o => .two k o) else .err 10
  else .err 1

/-- An account with keys sealed anew. -/
def wrapB (a : Acc) (pw : ByteArray) (f : Fre) (k : ByteArray) : Acc :=
  ⟨a.user, f.salt, f.rounds, a.epoch, a.pub, f.nonce, sealA (pwB pw f.salt f.rounds.toNat) f.nonce (a.user ++ a.pub) k, bs []⟩
def wrapB2 (a : Acc) (pw : ByteArray) (f : Fre) (k o : ByteArray) : Acc :=
  ⟨a.user, f.salt, f.rounds, a.epoch, a.pub, f.nonce, sealA (pwB pw f.salt f.rounds.toNat) f.nonce (a.user ++ a.pub) k, sealA (undB k) f.nonce a.pub o⟩

theorem rwB_parts {s n : ByteArray} {r : Int} (h : rwB s n r = true) : s.size = 16 ∧ n.size = 12 ∧ 1 ≤ r ∧ r ≤ 64 := by
  unfold rwB at h
  simp only [Bool.and_eq_true, beq_iff_eq, decide_eq_true_eq] at h
  obtain ⟨⟨⟨h1, h2⟩, h3⟩, h4⟩ := h
  exact ⟨h1, h2, h3, h4⟩
theorem usrB_parts {s : ByteArray} (h : usrB s = true) : 1 ≤ s.size ∧ s.size ≤ 8 := by
  unfold usrB at h
  simp only [Bool.and_eq_true, decide_eq_true_eq] at h
  exact h.1

/-- What an account that is to be sealed has. -/
structure Wr (a : Acc) (f : Fre) (k : ByteArray) : Prop where
  user : usrB a.user = true
  rw : f.rw = true
  e : a.epoch = 0 ∨ a.epoch = 1
  kz : k.size = 32
  pub : a.pub = xB k baseB

theorem ok_wrapB {a : Acc} {f : Fre} {k : ByteArray} (h : Wr a f k) (pw : ByteArray) : (wrapB a pw f k).ok = true := by
  obtain ⟨h1, h2, h3, h4, h5⟩ := h
  have hx : a.pub.size = 32 := by rw [h5]; exact size_xB _ _
  have h2' : rwB f.salt f.nonce f.rounds = true := h2
  unfold Acc.ok wrapB
  simp only [h1, h2', hx, size_sealA, h4, size_bs, List.length_nil, Bool.and_eq_true, Bool.or_eq_true, beq_iff_eq]
  simp only [h3, true_or, and_self]
theorem ok_wrapB2 {a : Acc} {f : Fre} {k o : ByteArray} (h : Wr a f k) (ho : o.size = 32) (pw : ByteArray) : (wrapB2 a pw f k o).ok = true := by
  obtain ⟨h1, h2, h3, h4, h5⟩ := h
  have hx : a.pub.size = 32 := by rw [h5]; exact size_xB _ _
  have h2' : rwB f.salt f.nonce f.rounds = true := h2
  unfold Acc.ok wrapB2
  simp only [h1, h2', hx, size_sealA, h4, ho, Bool.and_eq_true, Bool.or_eq_true, beq_iff_eq]
  simp only [h3, or_true, and_self]
theorem unl_wrapB {a : Acc} {f : Fre} {k : ByteArray} (h : Wr a f k) (pw : ByteArray) : unlB (wrapB a pw f k) pw = .one k := by
  rw [unlB, if_pos (ok_wrapB h pw)]
  have e : privU (wrapB a pw f k) pw = some k := open_seal _ _ _ _
  rw [e]
  simp only
  rw [if_pos (show xB k baseB = (wrapB a pw f k).pub from h.pub.symm), if_pos (show (wrapB a pw f k).old.size = 0 from rfl)]
theorem unl_wrapB2 {a : Acc} {f : Fre} {k o : ByteArray} (h : Wr a f k) (ho : o.size = 32) (pw : ByteArray) : unlB (wrapB2 a pw f k o) pw = .two k o := by
  rw [unlB, if_pos (ok_wrapB2 h ho pw)]
  have e : privU (wrapB2 a pw f k o) pw = some k := open_seal _ _ _ _
  have e2 : oldU (wrapB2 a pw f k o) k = some o := open_seal _ _ _ _
  have e3 : (wrapB2 a pw f k o).old.size = 48 := by show (sealA _ _ _ _).size = _; rw [size_sealA, ho]
  rw [e]
  simp only
  rw [if_pos (show xB k baseB = (wrapB2 a pw f k o).pub from h.pub.symm), if_neg (by omega), e2]
theorem fin_wrapB2 (a : Acc) (pw : ByteArray) (f : Fre) (k o : ByteArray) : ({ wrapB2 a pw f k o with old := bs [] } : Acc) = wrapB a pw f k := rfl

/-- What Unlock tells of an account that it opens. -/
theorem unl_one {a : Acc} {pw k : ByteArray} (h : unlB a pw = .one k) : a.ok = true ∧ k.size = 32 ∧ a.pub = xB k baseB ∧ a.old.size = 0 := by
  unfold unlB at h
  split at h
  · rename_i h1
    split at h
    · cases h
    · rename_i k' h2
      split at h
      · rename_i h3
        split at h
        · rename_i h4
          cases h
          have hz := size_openA h2
          have hw := (Acc.fits_of h1).wrapped
          exact ⟨h1, by omega, h3.symm, h4⟩
        · split at h <;> cases h
      · cases h
  · cases h
theorem unl_two {a : Acc} {pw k o : ByteArray} (h : unlB a pw = .two k o) : a.ok = true ∧ k.size = 32 ∧ a.pub = xB k baseB ∧ o.size = 32 ∧ a.old.size = 48 := by
  unfold unlB at h
  split at h
  · rename_i h1
    split at h
    · cases h
    · rename_i k' h2
      split at h
      · rename_i h3
        split at h
        · cases h
        · rename_i h4
          split at h
          · cases h
          · rename_i o' h5
            cases h
            have hz := size_openA h2
            have hw := (Acc.fits_of h1).wrapped
            have hy := size_openA h5
            have hq := (Acc.fits_of h1).old
            exact ⟨h1, by omega, h3.symm, by omega, by omega⟩
      · cases h
  · cases h

/-- What Make, Change and Rotate hand back: an account, and the error's number. -/
def newA (user : ByteArray) (e : Int) (k : ByteArray) : Acc := ⟨user, bs [], 0, e, xB k baseB, bs [], bs [], bs []⟩
def mkB (user pw : ByteArray) (f : Fre) : Acc × Int :=
  if usrB user = true ∧ f.ok = true then (wrapB (newA user 0 f.priv) pw f f.priv, 0) else (noAcc, 1)
def chgB (a : Acc) (old pw : ByteArray) (f : Fre) : Acc × Int := match unlB a old with
  | .err n => (noAcc, n)
  | .one k => if f.rw = true then (wrapB a pw f k, 0) else (noAcc, 1)
  | .two k o => if f.rw = true then (wrapB2 a pw f k o, 0) else (noAcc, 1)
def rotY (a : Acc) (pw : ByteArray) (f : Fre) (k : ByteArray) : Acc := wrapB2 (newA a.user (1 - a.epoch) f.priv) pw f f.priv k
def rotB (a : Acc) (pw : ByteArray) (f : Fre) : Acc × Int := match unlB a pw with
  | .err n => (noAcc, n)
  | .one k => if f.ok = true then (rotY a pw f k, 0) else (noAcc, 1)
  | .two _ _ => (noAcc, 8)
theorem fre_rw {f : Fre} (h : f.ok = true) : f.rw = true := by unfold Fre.ok at h; simp only [Bool.and_eq_true] at h; exact h.1
theorem fre_priv {f : Fre} (h : f.ok = true) : f.priv.size = 32 := by unfold Fre.ok at h; simp only [Bool.and_eq_true, beq_iff_eq] at h; exact h.2
theorem wr_new {user : ByteArray} {e : Int} {f : Fre} (hu : usrB user = true) (he : e = 0 ∨ e = 1) (hf : f.ok = true) : Wr (newA user e f.priv) f f.priv := ⟨hu, fre_rw hf, he, fre_priv hf, rfl⟩
/-- An account that Unlock opens is sealed anew. -/
theorem wr_one {a : Acc} {pw k : ByteArray} {f : Fre} (h : unlB a pw = .one k) (hf : f.rw = true) : Wr a f k :=
  have h1 := unl_one h
  have h2 := Acc.fits_of h1.1
  ⟨h2.user, hf, h2.e, h1.2.1, h1.2.2.1⟩
theorem wr_two {a : Acc} {pw k o : ByteArray} {f : Fre} (h : unlB a pw = .two k o) (hf : f.rw = true) : Wr a f k :=
  have h1 := unl_two h
  have h2 := Acc.fits_of h1.1
  ⟨h2.user, hf, h2.e, h1.2.1, h1.2.2.1⟩
end Go.Proofs.YtfckjilhkdlpfaaGreatDoor
