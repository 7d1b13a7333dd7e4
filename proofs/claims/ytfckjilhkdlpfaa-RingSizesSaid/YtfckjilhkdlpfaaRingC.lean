/-
  Contracts of mailsackref13: what is written for an account.
-/
import Derived.Test.YtfckjilhkdlpfaaRingB
namespace Go.Proofs.Ytfckjilhkdlpfaa
open Go.RowKit MS

set_option maxHeartbeats 400000 in
theorem refPut_any (a : Acc) (hk : a.ok = true) (w : World) :
    Calls Try.prog 15 #[a.v] w fun e w' => e = .returned (.string a.put) ∧ Below w.heap.size w w' := by
  have hft := Acc.fits_of hk
  obtain ⟨user, salt, rounds, epoch, pub, nonce, wrapped, old⟩ := a
  obtain ⟨h1, h2, h3, h4, h5, h6, h7, h8, h9, h10⟩ := hft
  unfold Acc.v at *
  simp only at *
  clear hk
  have o1 := fun W => one_any (UInt8.ofNat user.size) (user.size : Int) (by rw [UInt8.toNat_ofNat']; omega) W
  have o2 := fun W => one_any (UInt8.ofNat rounds.toNat) rounds (by rw [UInt8.toNat_ofNat']; omega) W
  have o3 := fun W => one_any (UInt8.ofNat epoch.toNat) epoch (by rw [UInt8.toNat_ofNat']; omega) W
  have s1 : (bs [UInt8.ofNat user.size]).size = 1 := rfl
  have s2 : (bs [UInt8.ofNat rounds.toNat]).size = 1 := rfl
  have s3 : (bs [UInt8.ofNat epoch.toNat]).size = 1 := rfl
  have c1 := fun W : World => run_string_add_sum (P := Try.prog) W (bs [UInt8.ofNat user.size]) user (by omega)
  have c2 := fun W : World => run_string_add_sum (P := Try.prog) W (bs [UInt8.ofNat user.size] ++ user) salt (by simp only [ByteArray.size_append]; omega)
  have c3 := fun W : World => run_string_add_sum (P := Try.prog) W (bs [UInt8.ofNat user.size] ++ user ++ salt) (bs [UInt8.ofNat rounds.toNat]) (by simp only [ByteArray.size_append]; omega)
  have c4 := fun W : World => run_string_add_sum (P := Try.prog) W (bs [UInt8.ofNat user.size] ++ user ++ salt ++ bs [UInt8.ofNat rounds.toNat]) (bs [UInt8.ofNat epoch.toNat]) (by simp only [ByteArray.size_append]; omega)
  have c5 := fun W : World => run_string_add_sum (P := Try.prog) W (bs [UInt8.ofNat user.size] ++ user ++ salt ++ bs [UInt8.ofNat rounds.toNat] ++ bs [UInt8.ofNat epoch.toNat]) pub (by simp only [ByteArray.size_append]; omega)
  have c6 := fun W : World => run_string_add_sum (P := Try.prog) W (bs [UInt8.ofNat user.size] ++ user ++ salt ++ bs [UInt8.ofNat rounds.toNat] ++ bs [UInt8.ofNat epoch.toNat] ++ pub) nonce (by simp only [ByteArray.size_append]; omega)
  have c7 := fun W : World => run_string_add_sum (P := Try.prog) W (bs [UInt8.ofNat user.size] ++ user ++ salt ++ bs [UInt8.ofNat rounds.toNat] ++ bs [UInt8.ofNat epoch.toNat] ++ pub ++ nonce) wrapped (by simp only [ByteArray.size_append]; omega)
  have c8 := fun W : World => run_string_add_sum (P := Try.prog) W (bs [UInt8.ofNat user.size] ++ user ++ salt ++ bs [UInt8.ofNat rounds.toNat] ++ bs [UInt8.ofNat epoch.toNat] ++ pub ++ nonce ++ wrapped) old (by simp only [ByteArray.size_append]; omega)
  clear s1 s2 s3
  have O1 := Lib.hid o1
  have O2 := Lib.hid o2
  have O3 := Lib.hid o3
  clear o1 o2 o3
  go_enter Try.func15, Try.ntmps15
  go_wp2_with fail
  go_region_held3 (fun w' => w'.cell? ⟨w.heap.size, 0, none⟩ = some (.string user) ∧ w'.cell? ⟨w.heap.size, 1, none⟩ = some (.string salt) ∧ w'.cell? ⟨w.heap.size, 2, none⟩ = some (.int .i64 rounds) ∧ w'.cell? ⟨w.heap.size, 3, none⟩ = some (.int .i64 epoch) ∧
      w'.cell? ⟨w.heap.size, 4, none⟩ = some (.string pub) ∧ w'.cell? ⟨w.heap.size, 5, none⟩ = some (.string nonce) ∧ w'.cell? ⟨w.heap.size, 6, none⟩ = some (.string wrapped) ∧ w'.cell? ⟨w.heap.size, 7, none⟩ = some (.string old))
    (simp [go_sem, World.cell?_alloc_past])
    (first
      | (go_at_call 20; refine (O1.out _).mono ?_; rintro e w' ⟨rfl, rfl⟩)
      | (go_at_call 20; refine (O2.out _).mono ?_; rintro e w' ⟨rfl, rfl⟩)
      | (go_at_call 20; refine (O3.out _).mono ?_; rintro e w' ⟨rfl, rfl⟩))
  go_wp2
  go_ret
  refine ⟨?_, by repeat (first | exact Below.refl _ _ | apply Below.drew | apply below_alloc)⟩
  have e1 : (bs [UInt8.ofNat user.size] ++ user ++ salt ++ bs [UInt8.ofNat rounds.toNat] ++ bs [UInt8.ofNat epoch.toNat] ++ pub ++ nonce ++ wrapped ++ old) = (⟨user, salt, rounds, epoch, pub, nonce, wrapped, old⟩ : Acc).put := by
    unfold Acc.put
    apply ls_inj
    simp only [ls_append, ls_bs]
    simp
  rw [← e1]
  rfl
end Go.Proofs.Ytfckjilhkdlpfaa
