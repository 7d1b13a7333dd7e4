/-
  The law RingKeeps, for all inputs.
-/
import Derived.Test.YtfckjilhkdlpfaaDoorRkK
namespace Go.Proofs.YtfckjilhkdlpfaaDoor
open Go.RowKit MS

set_option maxRecDepth 100000 in
theorem keeps_any (user pw other : ByteArray) (f g : Fre) (w : World) (G : Glob w) :
    Calls Tryd.prog 3 #[.string user, .string pw, .string other, f.v, g.v] w fun e w' => e = .returned (.bool true) ∧ Below w.heap.size w w' := by
  have S1 := fun w => short2_any ⟨user, bs [], 0, 0, bs [], bs [], bs [], bs []⟩ f w
  have S2 := fun w => short2_any noAcc g w
  cases h1 : short2 ⟨user, bs [], 0, 0, bs [], bs [], bs [], bs []⟩ f with
  | false =>
    rw [h1] at S1
    exact keeps_a user pw other f.salt f.nonce f.priv g.salt g.nonce g.priv f.rounds g.rounds w G S1
  | true =>
  rw [h1] at S1
  cases h2 : short2 noAcc g with
  | false =>
    rw [h2] at S2
    exact keeps_b user pw other f.salt f.nonce f.priv g.salt g.nonce g.priv f.rounds g.rounds w G S1 S2
  | true =>
  rw [h2] at S2
  by_cases hp : 100 < pw.size
  · exact keeps_c user pw other f.salt f.nonce f.priv g.salt g.nonce g.priv f.rounds g.rounds w G S1 S2 hp
  by_cases ho : 100 < other.size
  · exact keeps_d user pw other f.salt f.nonce f.priv g.salt g.nonce g.priv f.rounds g.rounds w G S1 S2 (by omega) ho
  have hp' : pw.size ≤ 100 := by omega
  have ho' : other.size ≤ 100 := by omega
  have M := fun w G => make_any user pw f w (by omega) G
  by_cases hm : usrB user = true ∧ f.ok = true
  · rw [mkB, if_pos hm] at M
    simp only at M
    have wr := wr_new (user := user) (e := 0) (f := f) hm.1 (.inl rfl) hm.2
    have ua := unl_wrapB wr pw
    have hac : (wrapB (newA user 0 f.priv) pw f f.priv).user = user := rfl
    have hae : (wrapB (newA user 0 f.priv) pw f f.priv).epoch = 0 := rfl
    generalize wrapB (newA user 0 f.priv) pw f f.priv = a at *
    have UA := fun w G => unlock_any a pw w (by omega) G
    rw [ua] at UA
    have CH := fun w G => change_any a pw other g w (by omega) (by omega) G
    have RO := fun w G => rotate_any a pw g w (by omega) G
    unfold chgB at CH
    unfold rotB at RO
    rw [ua] at CH RO
    simp only at CH RO
    cases hg : g.ok with
    | false =>
      rw [if_neg (by rw [hg]; exact Bool.false_ne_true)] at RO
      cases hr : g.rw with
      | false =>
        rw [if_neg (by rw [hr]; exact Bool.false_ne_true)] at CH
        exact keeps_w1 user pw other f.salt f.nonce f.priv g.salt g.nonce g.priv f.rounds g.rounds a noAcc noAcc w G S1 S2 M UA CH RO hp' ho'
      | true =>
        rw [if_pos hr] at CH
        have ub := unl_wrapB (wr_one ua hr) other
        have UB := fun w G => unlock_any (wrapB a other g f.priv) other w (by omega) G
        rw [ub] at UB
        exact keeps_w2 user pw other f.salt f.nonce f.priv g.salt g.nonce g.priv f.rounds g.rounds a (wrapB a other g f.priv) noAcc w G S1 S2 M UA CH UB RO hp' ho' rfl
    | true =>
      have hr := fre_rw hg
      rw [if_pos hg] at RO
      rw [if_pos hr] at CH
      have ub := unl_wrapB (wr_one ua hr) other
      have UB := fun w G => unlock_any (wrapB a other g f.priv) other w (by omega) G
      rw [ub] at UB
      have wc := wr_new (user := a.user) (e := 1 - a.epoch) (f := g) (by rw [hac]; exact hm.1) (.inr (by rw [hae]; rfl)) hg
      have uc := unl_wrapB2 wc (fre_priv hm.2) pw
      have UC := fun w G => unlock_any (rotY a pw g f.priv) pw w (by omega) G
      rw [rotY, uc] at UC
      have ud := unl_wrapB wc pw
      have UD := fun w G => unlock_any (wrapB (newA a.user (1 - a.epoch) g.priv) pw g g.priv) pw w (by omega) G
      rw [ud] at UD
      have FI := fun w => finish_any (rotY a pw g f.priv) w
      rw [show ({ rotY a pw g f.priv with old := bs [] } : Acc) = wrapB (newA a.user (1 - a.epoch) g.priv) pw g g.priv from rfl] at FI
      exact keeps_w3 user pw other f.salt f.nonce f.priv g.salt g.nonce g.priv f.rounds g.rounds a (wrapB a other g f.priv) (rotY a pw g f.priv) (wrapB (newA a.user (1 - a.epoch) g.priv) pw g g.priv) w G S1 S2 M UA CH UB RO UC FI UD hp' ho' rfl
  · rw [mkB, if_neg hm] at M
    exact keeps_w0 user pw other f.salt f.nonce f.priv g.salt g.nonce g.priv f.rounds g.rounds w G S1 S2 M hp' ho'
end Go.Proofs.YtfckjilhkdlpfaaDoor
