/-
  mailsackref04.twice, both: the walks. (The digits hold the values of a field's elements.)
-/
import Derived.Test.YthlmphloalbhnaaRFl
import Derived.Test.YthlmphloalbhnaaEcE
namespace Go.Proofs.Ythlmphloalbhnaa
open Go.RowKit MS

/-- A slice of 16 digits that holds an element of the field. -/
def DF (w : World) (v : Value) (x : MSE.F) : Prop := DS w 0 v 16 x.val
theorem DF.on {w w' : World} {v : Value} {x : MSE.F} (h : DF w v x) (hb : Below w.heap.size w w') : DF w' v x := DS.on h hb
def toF (n : Nat) : MSE.F := ⟨n % MSE.Q, Nat.mod_lt _ (by decide)⟩
theorem DF.val {w : World} {v : Value} {x : MSE.F} (h : DF w v x) : DS w 0 v 16 x.val := h

theorem rmulF (x y : MSE.F) (va vb : Value) (w : World) (ha : DF w va x) (hb : DF w vb y) :
    Calls Try.prog 19 #[va, vb] w fun e w' => Below w.heap.size w w' ∧ ∃ r, e = .returned r ∧ DF w' r (x * y) :=
  (rfmul_any x.val y.val va vb 0 0 w ha hb).mono fun _ _ h => h
theorem raddF (x y : MSE.F) (va vb : Value) (w : World) (ha : DF w va x) (hb : DF w vb y) :
    Calls Try.prog 24 #[va, vb] w fun e w' => Below w.heap.size w w' ∧ ∃ r, e = .returned r ∧ DF w' r (x + y) :=
  (rfadd_any 16 16 x.val y.val va vb 0 0 w ha hb (by decide) (by decide) (by decide)).mono fun _ _ h => h
theorem rsubF (x y : MSE.F) (va vb : Value) (w : World) (ha : DF w va x) (hb : DF w vb y) :
    Calls Try.prog 26 #[va, vb] w fun e w' => Below w.heap.size w w' ∧ ∃ r, e = .returned r ∧ DF w' r (x - y) := by
  refine (rfsub_any x.val y.val va vb 0 0 w ha hb (Nat.le_of_lt y.isLt)).mono fun _ _ h => ?_
  obtain ⟨h1, r, h2, h3⟩ := h
  refine ⟨h1, r, h2, ?_⟩
  show DS _ _ _ _ (x - y).val
  rw [Fin.sub_def]
  simp only
  rw [Nat.add_comm]
  exact h3
theorem rsmallF (n : Nat) (hn : n < 4294967296) (w : World) :
    Calls Try.prog 21 #[.int .i64 (n : Int)] w fun e w' => Below w.heap.size w w' ∧ ∃ r, e = .returned r ∧ DF w' r (toF n) := by
  refine (rfsmall_any n hn w).mono fun _ _ h => ?_
  obtain ⟨h1, r, h2, h3⟩ := h
  refine ⟨h1, r, h2, ?_⟩
  show DS _ _ _ _ (n % MSE.Q)
  rw [Nat.mod_eq_of_lt (Nat.lt_trans hn (by decide))]
  exact h3

set_option maxRecDepth 1000000 in
set_option maxHeartbeats 2000000 in
theorem rtwice_any (x z : MSE.F) (vx vz : Value) (w : World) (hx : DF w vx x) (hz : DF w vz z) :
    Calls Try.prog 53 #[vx, vz] w fun e w' => Below w.heap.size w w' ∧ ∃ r s, e = .returned (.tuple #[r, s]) ∧ DF w' r ((MSE.dblF (x, z)).1) ∧ DF w' s ((MSE.dblF (x, z)).2) := by
  have Dx := Lib.hid hx
  have Dz := Lib.hid hz
  clear hx hz
  have B0 := Lib.hid (Below.refl w.heap.size w)
  go_enter Try.func53, Try.ntmps53
  go_wp2_with fail
  refine (raddF _ _ _ _ _ Dx.out Dz.out).mono ?_
  rintro e w0 ⟨hb, rs, rfl, hd⟩
  have B1 := Lib.hid (B0.out.trans (hb.mono B0.out.size))
  have E0x := Lib.hid (Dx.out.on hb)
  have E0z := Lib.hid (Dz.out.on hb)
  have D0s := Lib.hid hd
  clear hb hd B0 Dx Dz
  go_wp2_with fail
  refine (rsubF _ _ _ _ _ E0x.out E0z.out).mono ?_
  rintro e w1 ⟨hb, rd, rfl, hd⟩
  have B2 := Lib.hid (B1.out.trans (hb.mono B1.out.size))
  have E1s := Lib.hid (D0s.out.on hb)
  have D1d := Lib.hid hd
  clear hb hd B1 E0x E0z D0s
  go_wp2_with fail
  refine (rmulF _ _ _ _ _ E1s.out E1s.out).mono ?_
  rintro e w2 ⟨hb, ra, rfl, hd⟩
  have B3 := Lib.hid (B2.out.trans (hb.mono B2.out.size))
  have E2d := Lib.hid (D1d.out.on hb)
  have D2a := Lib.hid hd
  clear hb hd B2 E1s D1d
  go_wp2_with fail
  refine (rmulF _ _ _ _ _ E2d.out E2d.out).mono ?_
  rintro e w3 ⟨hb, rb, rfl, hd⟩
  have B4 := Lib.hid (B3.out.trans (hb.mono B3.out.size))
  have E3a := Lib.hid (D2a.out.on hb)
  have D3b := Lib.hid hd
  clear hb hd B3 E2d D2a
  go_wp2_with fail
  refine (rsubF _ _ _ _ _ E3a.out D3b.out).mono ?_
  rintro e w4 ⟨hb, re, rfl, hd⟩
  have B5 := Lib.hid (B4.out.trans (hb.mono B4.out.size))
  have E4a := Lib.hid (E3a.out.on hb)
  have E4b := Lib.hid (D3b.out.on hb)
  have D4e := Lib.hid hd
  clear hb hd B4 E3a D3b
  go_wp2_with fail
  refine (rmulF _ _ _ _ _ E4a.out E4b.out).mono ?_
  rintro e w5 ⟨hb, rX, rfl, hd⟩
  have B6 := Lib.hid (B5.out.trans (hb.mono B5.out.size))
  have E5a := Lib.hid (E4a.out.on hb)
  have E5e := Lib.hid (D4e.out.on hb)
  have D5X := Lib.hid hd
  clear hb hd B5 E4a E4b D4e
  go_wp2_with fail
  refine (rsmallF 121665 (by decide) _).mono ?_
  rintro e w6 ⟨hb, rk, rfl, hd⟩
  have B7 := Lib.hid (B6.out.trans (hb.mono B6.out.size))
  have E6a := Lib.hid (E5a.out.on hb)
  have E6e := Lib.hid (E5e.out.on hb)
  have E6X := Lib.hid (D5X.out.on hb)
  have D6k := Lib.hid hd
  clear hb hd B6 E5a E5e D5X
  go_wp2_with fail
  refine (rmulF _ _ _ _ _ D6k.out E6e.out).mono ?_
  rintro e w7 ⟨hb, rf, rfl, hd⟩
  have B8 := Lib.hid (B7.out.trans (hb.mono B7.out.size))
  have E7a := Lib.hid (E6a.out.on hb)
  have E7e := Lib.hid (E6e.out.on hb)
  have E7X := Lib.hid (E6X.out.on hb)
  have D7f := Lib.hid hd
  clear hb hd B7 E6a E6e E6X D6k
  go_wp2_with fail
  refine (raddF _ _ _ _ _ E7a.out D7f.out).mono ?_
  rintro e w8 ⟨hb, rg, rfl, hd⟩
  have B9 := Lib.hid (B8.out.trans (hb.mono B8.out.size))
  have E8e := Lib.hid (E7e.out.on hb)
  have E8X := Lib.hid (E7X.out.on hb)
  have D8g := Lib.hid hd
  clear hb hd B8 E7a E7e E7X D7f
  go_wp2_with fail
  refine (rmulF _ _ _ _ _ E8e.out D8g.out).mono ?_
  rintro e w9 ⟨hb, rZ, rfl, hd⟩
  have B10 := Lib.hid (B9.out.trans (hb.mono B9.out.size))
  have E9X := Lib.hid (E8X.out.on hb)
  have D9Z := Lib.hid hd
  clear hb hd B9 E8e E8X D8g
  go_wp2_with fail
  go_ret2
  refine ⟨B10.out, _, _, rfl, ?_, ?_⟩
  · exact E9X.out
  · have h := D9Z.out
    rw [show toF 121665 = 121665 from rfl, Fin.mul_comm 121665] at h
    exact h

set_option maxRecDepth 1000000 in
set_option maxHeartbeats 2000000 in
theorem rboth_any (x z X Z u : MSE.F) (vx vz vX vZ vu : Value) (w : World) (hx : DF w vx x) (hz : DF w vz z) (hX : DF w vX X) (hZ : DF w vZ Z) (hu : DF w vu u) :
    Calls Try.prog 52 #[vx, vz, vX, vZ, vu] w fun e w' => Below w.heap.size w w' ∧ ∃ r s, e = .returned (.tuple #[r, s]) ∧ DF w' r ((MSE.addF u (x, z) (X, Z)).1) ∧ DF w' s ((MSE.addF u (x, z) (X, Z)).2) := by
  have Dx := Lib.hid hx
  have Dz := Lib.hid hz
  have DX := Lib.hid hX
  have DZ := Lib.hid hZ
  have Du := Lib.hid hu
  clear hx hz hX hZ hu
  have B0 := Lib.hid (Below.refl w.heap.size w)
  go_enter Try.func52, Try.ntmps52
  go_wp2_with fail
  refine (rsubF _ _ _ _ _ DX.out DZ.out).mono ?_
  rintro e w0 ⟨hb, ra, rfl, hd⟩
  have B1 := Lib.hid (B0.out.trans (hb.mono B0.out.size))
  have E0x := Lib.hid (Dx.out.on hb)
  have E0z := Lib.hid (Dz.out.on hb)
  have E0X := Lib.hid (DX.out.on hb)
  have E0Z := Lib.hid (DZ.out.on hb)
  have E0u := Lib.hid (Du.out.on hb)
  have D0a := Lib.hid hd
  clear hb hd B0 Dx Dz DX DZ Du
  go_wp2_with fail
  refine (raddF _ _ _ _ _ E0x.out E0z.out).mono ?_
  rintro e w1 ⟨hb, rb, rfl, hd⟩
  have B2 := Lib.hid (B1.out.trans (hb.mono B1.out.size))
  have E1x := Lib.hid (E0x.out.on hb)
  have E1z := Lib.hid (E0z.out.on hb)
  have E1X := Lib.hid (E0X.out.on hb)
  have E1Z := Lib.hid (E0Z.out.on hb)
  have E1u := Lib.hid (E0u.out.on hb)
  have E1a := Lib.hid (D0a.out.on hb)
  have D1b := Lib.hid hd
  clear hb hd B1 E0x E0z E0X E0Z E0u D0a
  go_wp2_with fail
  refine (rmulF _ _ _ _ _ E1a.out D1b.out).mono ?_
  rintro e w2 ⟨hb, rm, rfl, hd⟩
  have B3 := Lib.hid (B2.out.trans (hb.mono B2.out.size))
  have E2x := Lib.hid (E1x.out.on hb)
  have E2z := Lib.hid (E1z.out.on hb)
  have E2X := Lib.hid (E1X.out.on hb)
  have E2Z := Lib.hid (E1Z.out.on hb)
  have E2u := Lib.hid (E1u.out.on hb)
  have D2m := Lib.hid hd
  clear hb hd B2 E1x E1z E1X E1Z E1u E1a D1b
  go_wp2_with fail
  refine (raddF _ _ _ _ _ E2X.out E2Z.out).mono ?_
  rintro e w3 ⟨hb, rc, rfl, hd⟩
  have B4 := Lib.hid (B3.out.trans (hb.mono B3.out.size))
  have E3x := Lib.hid (E2x.out.on hb)
  have E3z := Lib.hid (E2z.out.on hb)
  have E3u := Lib.hid (E2u.out.on hb)
  have E3m := Lib.hid (D2m.out.on hb)
  have D3c := Lib.hid hd
  clear hb hd B3 E2x E2z E2X E2Z E2u D2m
  go_wp2_with fail
  refine (rsubF _ _ _ _ _ E3x.out E3z.out).mono ?_
  rintro e w4 ⟨hb, rd, rfl, hd⟩
  have B5 := Lib.hid (B4.out.trans (hb.mono B4.out.size))
  have E4u := Lib.hid (E3u.out.on hb)
  have E4m := Lib.hid (E3m.out.on hb)
  have E4c := Lib.hid (D3c.out.on hb)
  have D4d := Lib.hid hd
  clear hb hd B4 E3x E3z E3u E3m D3c
  go_wp2_with fail
  refine (rmulF _ _ _ _ _ E4c.out D4d.out).mono ?_
  rintro e w5 ⟨hb, rn, rfl, hd⟩
  have B6 := Lib.hid (B5.out.trans (hb.mono B5.out.size))
  have E5u := Lib.hid (E4u.out.on hb)
  have E5m := Lib.hid (E4m.out.on hb)
  have D5n := Lib.hid hd
  clear hb hd B5 E4u E4m E4c D4d
  go_wp2_with fail
  refine (raddF _ _ _ _ _ E5m.out D5n.out).mono ?_
  rintro e w6 ⟨hb, rs, rfl, hd⟩
  have B7 := Lib.hid (B6.out.trans (hb.mono B6.out.size))
  have E6u := Lib.hid (E5u.out.on hb)
  have E6m := Lib.hid (E5m.out.on hb)
  have E6n := Lib.hid (D5n.out.on hb)
  have D6s := Lib.hid hd
  clear hb hd B6 E5u E5m D5n
  go_wp2_with fail
  refine (rsubF _ _ _ _ _ E6m.out E6n.out).mono ?_
  rintro e w7 ⟨hb, rt, rfl, hd⟩
  have B8 := Lib.hid (B7.out.trans (hb.mono B7.out.size))
  have E7u := Lib.hid (E6u.out.on hb)
  have E7s := Lib.hid (D6s.out.on hb)
  have D7t := Lib.hid hd
  clear hb hd B7 E6u E6m E6n D6s
  go_wp2_with fail
  refine (rmulF _ _ _ _ _ E7s.out E7s.out).mono ?_
  rintro e w8 ⟨hb, rP, rfl, hd⟩
  have B9 := Lib.hid (B8.out.trans (hb.mono B8.out.size))
  have E8u := Lib.hid (E7u.out.on hb)
  have E8t := Lib.hid (D7t.out.on hb)
  have D8P := Lib.hid hd
  clear hb hd B8 E7u E7s D7t
  go_wp2_with fail
  refine (rmulF _ _ _ _ _ E8t.out E8t.out).mono ?_
  rintro e w9 ⟨hb, rq, rfl, hd⟩
  have B10 := Lib.hid (B9.out.trans (hb.mono B9.out.size))
  have E9u := Lib.hid (E8u.out.on hb)
  have E9P := Lib.hid (D8P.out.on hb)
  have D9q := Lib.hid hd
  clear hb hd B9 E8u E8t D8P
  go_wp2_with fail
  refine (rmulF _ _ _ _ _ E9u.out D9q.out).mono ?_
  rintro e w10 ⟨hb, rR, rfl, hd⟩
  have B11 := Lib.hid (B10.out.trans (hb.mono B10.out.size))
  have E10P := Lib.hid (E9P.out.on hb)
  have D10R := Lib.hid hd
  clear hb hd B10 E9u E9P D9q
  go_wp2_with fail
  go_ret2
  refine ⟨B11.out, _, _, rfl, ?_, ?_⟩
  · exact E10P.out
  · exact D10R.out
end Go.Proofs.Ythlmphloalbhnaa
