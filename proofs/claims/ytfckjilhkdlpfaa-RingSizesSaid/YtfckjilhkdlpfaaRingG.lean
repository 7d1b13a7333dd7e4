/-
  The fixed answer of the stage: it is true.
-/
import Derived.Test.YtfckjilhkdlpfaaRingF
namespace Go.Proofs.Ytfckjilhkdlpfaa
open Go.RowKit MS

/-- Put, then Take. -/
theorem take_put (a : Acc) (h : a.ok = true) (w : World) :
    Calls Try.prog 14 #[.string a.put] w fun e w' => e = .returned (.tuple #[a.v, .int .i64 0]) ∧ Below w.heap.size w w' := by
  have hf := Acc.fits_of h
  have hz := put_size a hf
  have h0 : 0 < a.put.size := by omega
  have hu : a.user.size ≤ 8 := hf.u8
  have ho := hf.old
  have hk : (a.put[0]'h0).toNat = a.user.size := by
    rw [get_ls]
    simp only [ls_put, List.getElem_cons_zero]
    rw [UInt8.toNat_ofNat']; omega
  refine (take_any a.put a.user.size h0 hk (by omega) (by omega) w).mono fun e w' ⟨he, hb⟩ => ⟨?_, hb⟩
  have := he.1 (by rw [takeAcc_put a hf]; exact h)
  rw [takeAcc_put a hf] at this
  exact this

/-- The account of the fixed answer. -/
def a0 : Acc := ⟨bs [97, 108], bs [48, 49, 50, 51, 52, 53, 54, 55, 56, 57, 97, 98, 99, 100, 101, 102], 1, 0,
  bs [48, 49, 50, 51, 52, 53, 54, 55, 56, 57, 97, 98, 99, 100, 101, 102, 48, 49, 50, 51, 52, 53, 54, 55, 56, 57, 97, 98, 99, 100, 101, 102],
  bs [48, 49, 50, 51, 52, 53, 54, 55, 56, 57, 97, 98],
  bs [48, 49, 50, 51, 52, 53, 54, 55, 56, 57, 97, 98, 99, 100, 101, 102, 48, 49, 50, 51, 52, 53, 54, 55, 56, 57, 97, 98, 99, 100, 101, 102, 48, 49, 50, 51, 52, 53, 54, 55, 56, 57, 97, 98, 99, 100, 101, 102], bs []⟩
theorem a0_ok : a0.ok = true := by decide +kernel
theorem a0_size : a0.put.size = 113 := by rw [put_size a0 (Acc.fits_of a0_ok)]; rfl

theorem al_user : usrB ⟨#[97, 108]⟩ = true := by decide +kernel
theorem Al_user : usrB ⟨#[65, 108]⟩ = false := by decide +kernel
set_option maxHeartbeats 1000000 in
theorem awake_any (w : World) :
    Calls Try.prog 7 #[] w fun e w' => e = .returned (.bool true) ∧ Below w.heap.size w w' := by
  have hp := put_yes a0 a0_ok
  have ht := take_put a0 a0_ok
  have hz := a0_size
  generalize a0.put = S at *
  unfold a0 Acc.v bs at hp ht
  simp only at hp ht
  have HP := Lib.hid hp
  have HT := Lib.hid ht
  clear hp ht
  go_enter Try.func7, Try.ntmps7
  go_wp2_with fail
  refine (HP.out _).mono ?_
  rintro e w1 ⟨rfl, hb1⟩
  obtain ⟨hc1, hf1⟩ := bcell hb1
  go_wp2_with fail
  refine (HT.out _).mono ?_
  rintro e w2 ⟨rfl, hb2⟩
  obtain ⟨hc2, hf2⟩ := bcell hb2
  go_wp2_with (go_at_call 12; refine (rightUser_any _ _).mono ?_; rintro e w' ⟨rfl, rfl⟩)
  go_ret
  refine ⟨by simp [Al_user], ?_⟩
  repeat (first | (with_reducible exact Below.refl _ _) | (with_reducible refine below_setCell ?_ (by simp) _) | (with_reducible apply below_alloc) | (with_reducible apply Below.drew) | (with_reducible refine below_chain ?_ (by assumption)))
end Go.Proofs.Ytfckjilhkdlpfaa
