/-
  Texts of this seat, put together: LdA, Held, Two, LdB, LdD, LdE, LdF, FeW, FeY, Makes, FeV, FeX, LdR.
-/
import Derived.Test.YthlmphloalbhnaaLdZ2
import Derived.Laws.Rows
import Derived.Deep.RegionWith

/-
  mailsackref04.twice, both: the walks. (The digits hold the values of a field's elements.)
-/
namespace Go.Proofs.Ythlmphloalbhnaa
open Go.RowKit MS

/-- A slice of 16 digits that holds an element of the field. -/
def DF (w : World) (v : Value) (x : MSE.F) : Prop := DS w 0 v 16 x.val
theorem DF.on {w w' : World} {v : Value} {x : MSE.F} (h : DF w v x) (hb : Below w.heap.size w w') : DF w' v x := DS.on h hb
def toF (n : Nat) : MSE.F := ⟨n % MSE.Q, Nat.mod_lt _ (by decide)⟩
theorem DF.val {w : World} {v : Value} {x : MSE.F} (h : DF w v x) : DS w 0 v 16 x.val := h

theorem rmulF (x y : MSE.F) (va vb : Value) (w : World) (ha : DF w va x) (hb : DF w vb y) :
    Calls Try.prog 19 #[va, vb] w fun e w' => Below w.heap.size w w' ∧ ∃ r, e = .returned r ∧ DF w' r (x * y) :=
  (rfmul_any x.val y.val va vb 0 0 w ha hb).mono fun _ _ h => h
theorem raddF (x y : MSE.F) (va vb : Value) (w : World) (ha : DF w va x) (hb : DF w vb y) :
    Calls Try.prog 24 #[va, vb] w fun e w' => Below w.heap.size w w' ∧ ∃ r, e = .returned r ∧ DF w' r (x + y) :=
  (rfadd_any 16 16 x.val y.val va vb 0 0 w ha hb (by decide) (by decide) (by decide)).mono fun _ _ h => h
theorem rsubF (x y : MSE.F) (va vb : Value) (w : World) (ha : DF w va x) (hb : DF w vb y) :
    Calls Try.prog 26 #[va, vb] w fun e w' => Below w.heap.size w w' ∧ ∃ r, e = .returned r ∧ DF w' r (x - y) := by
  refine (rfsub_any x.val y.val va vb 0 0 w ha hb (Nat.le_of_lt y.isLt)).mono fun _ _ h => ?_
  obtain ⟨h1, r, h2, h3⟩ := h
  refine ⟨h1, r, h2, ?_⟩
  show DS _ _ _ _ (x - y).val
  rw [Fin.sub_def]
  simp only
  rw [Nat.add_comm]
  exact h3
theorem rsmallF (n : Nat) (hn : n < 4294967296) (w : World) :
    Calls Try.prog 21 #[.int .i64 (n : Int)] w fun e w' => Below w.heap.size w w' ∧ ∃ r, e = .returned r ∧ DF w' r (toF n) := by
  refine (rfsmall_any n hn w).mono fun _ _ h => ?_
  obtain ⟨h1, r, h2, h3⟩ := h
  refine ⟨h1, r, h2, ?_⟩
  show DS _ _ _ _ (n % MSE.Q)
  rw [Nat.mod_eq_of_lt (Nat.lt_trans hn (by decide))]
  exact h3

set_option maxRecDepth 1000000 in
set_option maxHeartbeats 2000000 in
theorem rtwice_any (x z : MSE.F) (vx vz : Value) (w : World) (hx : DF w vx x) (hz : DF w vz z) :
    Calls Try.prog 53 #[vx, vz] w fun e w' => Below w.heap.size w w' ∧ ∃ r s, e = .returned (.tuple #[r, s]) ∧ DF w' r ((MSE.dblF (x, z)).1) ∧ DF w' s ((MSE.dblF (x, z)).2) := by
  have Dx := Lib.hid hx
  have Dz := Lib.hid hz
  clear hx hz
  have B0 := Lib.hid (Below.refl w.heap.size w)
  go_enter Try.func53, Try.ntmps53
  go_wp2_with fail
  refine (raddF _ _ _ _ _ Dx.out Dz.out).mono ?_
  rintro e w0 ⟨hb, rs, rfl, hd⟩
  have B1 := Lib.hid (B0.out.trans (hb.mono B0.out.size))
  have E0x := Lib.hid (Dx.out.on hb)
  have E0z := Lib.hid (Dz.out.on hb)
  have D0s := Lib.hid hd
  clear hb hd B0 Dx Dz
  go_wp2_with fail
  refine (rsubF _ _ _ _ _ E0x.out E0z.out).mono ?_
  rintro e w1 ⟨hb, rd, rfl, hd⟩
  have B2 := Lib.hid (B1.out.trans (hb.mono B1.out.size))
  have E1s := Lib.hid (D0s.out.on hb)
  have D1d := Lib.hid hd
  clear hb hd B1 E0x E0z D0s
  go_wp2_with fail
  refine (rmulF _ _ _ _ _ E1s.out E1s.out).mono ?_
  rintro e w2 ⟨hb, ra, rfl, hd⟩
  have B3 := Lib.hid (B2.out.trans (hb.mono B2.out.size))
  have E2d := Lib.hid (D1d.out.on hb)
  have D2a := Lib.hid hd
  clear hb hd B2 E1s D1d
  go_wp2_with fail
  refine (rmulF _ _ _ _ _ E2d.out E2d.out).mono ?_
  rintro e w3 ⟨hb, rb, rfl, hd⟩
  have B4 := Lib.hid (B3.out.trans (hb.mono B3.out.size))
  have E3a := Lib.hid (D2a.out.on hb)
  have D3b := Lib.hid hd
  clear hb hd B3 E2d D2a
  go_wp2_with fail
  refine (rsubF _ _ _ _ _ E3a.out D3b.out).mono ?_
  rintro e w4 ⟨hb, re, rfl, hd⟩
  have B5 := Lib.hid (B4.out.trans (hb.mono B4.out.size))
  have E4a := Lib.hid (E3a.out.on hb)
  have E4b := Lib.hid (D3b.out.on hb)
  have D4e := Lib.hid hd
  clear hb hd B4 E3a D3b
  go_wp2_with fail
  refine (rmulF _ _ _ _ _ E4a.out E4b.out).mono ?_
  rintro e w5 ⟨hb, rX, rfl, hd⟩
  have B6 := Lib.hid (B5.out.trans (hb.mono B5.out.size))
  have E5a := Lib.hid (E4a.out.on hb)
  have E5e := Lib.hid (D4e.out.on hb)
  have D5X := Lib.hid hd
  clear hb hd B5 E4a E4b D4e
  go_wp2_with fail
  refine (rsmallF 121665 (by decide) _).mono ?_
  rintro e w6 ⟨hb, rk, rfl, hd⟩
  have B7 := Lib.hid (B6.out.trans (hb.mono B6.out.size))
  have E6a := Lib.hid (E5a.out.on hb)
  have E6e := Lib.hid (E5e.out.on hb)
  have E6X := Lib.hid (D5X.out.on hb)
  have D6k := Lib.hid hd
  clear hb hd B6 E5a E5e D5X
  go_wp2_with fail
  refine (rmulF _ _ _ _ _ D6k.out E6e.out).mono ?_
  rintro e w7 ⟨hb, rf, rfl, hd⟩
  have B8 := Lib.hid (B7.out.trans (hb.mono B7.out.size))
  have E7a := Lib.hid (E6a.out.on hb)
  have E7e := Lib.hid (E6e.out.on hb)
  have E7X := Lib.hid (E6X.out.on hb)
  have D7f := Lib.hid hd
  clear hb hd B7 E6a E6e E6X D6k
  go_wp2_with fail
  refine (raddF _ _ _ _ _ E7a.out D7f.out).mono ?_
  rintro e w8 ⟨hb, rg, rfl, hd⟩
  have B9 := Lib.hid (B8.out.trans (hb.mono B8.out.size))
  have E8e := Lib.hid (E7e.out.on hb)
  have E8X := Lib.hid (E7X.out.on hb)
  have D8g := Lib.hid hd
  clear hb hd B8 E7a E7e E7X D7f
  go_wp2_with fail
  refine (rmulF _ _ _ _ _ E8e.out D8g.out).mono ?_
  rintro e w9 ⟨hb, rZ, rfl, hd⟩
  have B10 := Lib.hid (B9.out.trans (hb.mono B9.out.size))
  have E9X := Lib.hid (E8X.out.on hb)
  have D9Z := Lib.hid hd
  clear hb hd B9 E8e E8X D8g
  go_wp2_with fail
  go_ret2
  refine ⟨B10.out, _, _, rfl, ?_, ?_⟩
  · exact E9X.out
  · have h := D9Z.out
    rw [show toF 121665 = 121665 from rfl, Fin.mul_comm 121665] at h
    exact h

set_option maxRecDepth 1000000 in
set_option maxHeartbeats 2000000 in
theorem rboth_any (x z X Z u : MSE.F) (vx vz vX vZ vu : Value) (w : World) (hx : DF w vx x) (hz : DF w vz z) (hX : DF w vX X) (hZ : DF w vZ Z) (hu : DF w vu u) :
    Calls Try.prog 52 #[vx, vz, vX, vZ, vu] w fun e w' => Below w.heap.size w w' ∧ ∃ r s, e = .returned (.tuple #[r, s]) ∧ DF w' r ((MSE.addF u (x, z) (X, Z)).1) ∧ DF w' s ((MSE.addF u (x, z) (X, Z)).2) := by
  have Dx := Lib.hid hx
  have Dz := Lib.hid hz
  have DX := Lib.hid hX
  have DZ := Lib.hid hZ
  have Du := Lib.hid hu
  clear hx hz hX hZ hu
  have B0 := Lib.hid (Below.refl w.heap.size w)
  go_enter Try.func52, Try.ntmps52
  go_wp2_with fail
  refine (rsubF _ _ _ _ _ DX.out DZ.out).mono ?_
  rintro e w0 ⟨hb, ra, rfl, hd⟩
  have B1 := Lib.hid (B0.out.trans (hb.mono B0.out.size))
  have E0x := Lib.hid (Dx.out.on hb)
  have E0z := Lib.hid (Dz.out.on hb)
  have E0X := Lib.hid (DX.out.on hb)
  have E0Z := Lib.hid (DZ.out.on hb)
  have E0u := Lib.hid (Du.out.on hb)
  have D0a := Lib.hid hd
  clear hb hd B0 Dx Dz DX DZ Du
  go_wp2_with fail
  refine (raddF _ _ _ _ _ E0x.out E0z.out).mono ?_
  rintro e w1 ⟨hb, rb, rfl, hd⟩
  have B2 := Lib.hid (B1.out.trans (hb.mono B1.out.size))
  have E1x := Lib.hid (E0x.out.on hb)
  have E1z := Lib.hid (E0z.out.on hb)
  have E1X := Lib.hid (E0X.out.on hb)
  have E1Z := Lib.hid (E0Z.out.on hb)
  have E1u := Lib.hid (E0u.out.on hb)
  have E1a := Lib.hid (D0a.out.on hb)
  have D1b := Lib.hid hd
  clear hb hd B1 E0x E0z E0X E0Z E0u D0a
  go_wp2_with fail
  refine (rmulF _ _ _ _ _ E1a.out D1b.out).mono ?_
  rintro e w2 ⟨hb, rm, rfl, hd⟩
  have B3 := Lib.hid (B2.out.trans (hb.mono B2.out.size))
  have E2x := Lib.hid (E1x.out.on hb)
  have E2z := Lib.hid (E1z.out.on hb)
  have E2X := Lib.hid (E1X.out.on hb)
  have E2Z := Lib.hid (E1Z.out.on hb)
  have E2u := Lib.hid (E1u.out.on hb)
  have D2m := Lib.hid hd
  clear hb hd B2 E1x E1z E1X E1Z E1u E1a D1b
  go_wp2_with fail
  refine (raddF _ _ _ _ _ E2X.out E2Z.out).mono ?_
  rintro e w3 ⟨hb, rc, rfl, hd⟩
  have B4 := Lib.hid (B3.out.trans (hb.mono B3.out.size))
  have E3x := Lib.hid (E2x.out.on hb)
  have E3z := Lib.hid (E2z.out.on hb)
  have E3u := Lib.hid (E2u.out.on hb)
  have E3m := Lib.hid (D2m.out.on hb)
  have D3c := Lib.hid hd
  clear hb hd B3 E2x E2z E2X E2Z E2u D2m
  go_wp2_with fail
  refine (rsubF _ _ _ _ _ E3x.out E3z.out).mono ?_
  rintro e w4 ⟨hb, rd, rfl, hd⟩
  have B5 := Lib.hid (B4.out.trans (hb.mono B4.out.size))
  have E4u := Lib.hid (E3u.out.on hb)
  have E4m := Lib.hid (E3m.out.on hb)
  have E4c := Lib.hid (D3c.out.on hb)
  have D4d := Lib.hid hd
  clear hb hd B4 E3x E3z E3u E3m D3c
  go_wp2_with fail
  refine (rmulF _ _ _ _ _ E4c.out D4d.out).mono ?_
  rintro e w5 ⟨hb, rn, rfl, hd⟩
  have B6 := Lib.hid (B5.out.trans (hb.mono B5.out.size))
  have E5u := Lib.hid (E4u.out.on hb)
  have E5m := Lib.hid (E4m.out.on hb)
  have D5n := Lib.hid hd
  clear hb hd B5 E4u E4m E4c D4d
  go_wp2_with fail
  refine (raddF _ _ _ _ _ E5m.out D5n.out).mono ?_
  rintro e w6 ⟨hb, rs, rfl, hd⟩
  have B7 := Lib.hid (B6.out.trans (hb.mono B6.out.size))
  have E6u := Lib.hid (E5u.out.on hb)
  have E6m := Lib.hid (E5m.out.on hb)
  have E6n := Lib.hid (D5n.out.on hb)
  have D6s := Lib.hid hd
  clear hb hd B6 E5u E5m D5n
  go_wp2_with fail
  refine (rsubF _ _ _ _ _ E6m.out E6n.out).mono ?_
  rintro e w7 ⟨hb, rt, rfl, hd⟩
  have B8 := Lib.hid (B7.out.trans (hb.mono B7.out.size))
  have E7u := Lib.hid (E6u.out.on hb)
  have E7s := Lib.hid (D6s.out.on hb)
  have D7t := Lib.hid hd
  clear hb hd B7 E6u E6m E6n D6s
  go_wp2_with fail
  refine (rmulF _ _ _ _ _ E7s.out E7s.out).mono ?_
  rintro e w8 ⟨hb, rP, rfl, hd⟩
  have B9 := Lib.hid (B8.out.trans (hb.mono B8.out.size))
  have E8u := Lib.hid (E7u.out.on hb)
  have E8t := Lib.hid (D7t.out.on hb)
  have D8P := Lib.hid hd
  clear hb hd B8 E7u E7s D7t
  go_wp2_with fail
  refine (rmulF _ _ _ _ _ E8t.out E8t.out).mono ?_
  rintro e w9 ⟨hb, rq, rfl, hd⟩
  have B10 := Lib.hid (B9.out.trans (hb.mono B9.out.size))
  have E9u := Lib.hid (E8u.out.on hb)
  have E9P := Lib.hid (D8P.out.on hb)
  have D9q := Lib.hid hd
  clear hb hd B9 E8u E8t D8P
  go_wp2_with fail
  refine (rmulF _ _ _ _ _ E9u.out D9q.out).mono ?_
  rintro e w10 ⟨hb, rR, rfl, hd⟩
  have B11 := Lib.hid (B10.out.trans (hb.mono B10.out.size))
  have E10P := Lib.hid (E9P.out.on hb)
  have D10R := Lib.hid hd
  clear hb hd B10 E9u E9P D9q
  go_wp2_with fail
  go_ret2
  refine ⟨B11.out, _, _, rfl, ?_, ?_⟩
  · exact E10P.out
  · exact D10R.out
end Go.Proofs.Ythlmphloalbhnaa

/-
  Regions that draw their order: the loads taken first (in every world grown from the region's own), the calls met one by one, whatever they hand back.
-/
namespace Go.Proofs.Ythlmphloalbhnaa
open Go.RowKit MS

section
variable {P : Program} {ops : Array Oper} {Q : Exit → Act → World → Prop}
theorem wpOp_call {i d f : Nat} {o : Oper} {args : Array Value} {K : Act → World → Prop} {a : Act} {w : World} (hi : ops[i]? = some o) (hw : Region.wanted o (yielded ops a.tmps) = true) (hd : o.dst = some d)
    (hrun : (execOp a.eval o).run P w = .ok (.enter f args) w) (hc : Calls P f args w fun e w' => ∃ v, e = .returned v ∧ K (a.put (some d) v) w') : wpOp P ops Q i K a w := by
  unfold wpOp
  simp only [hi]
  rw [if_pos hw]
  refine .inl ?_
  unfold Oper.wp
  rw [hrun]
  simp only [Oper.upon]
  refine hc.mono ?_
  rintro e w' ⟨v, rfl, h⟩
  rw [hd]
  exact h
theorem run_load_row {ρ : Operand → Value} {o : Oper} {w : World} (ty : TypeId) (x : Operand) (ho : o.op = .load ty x) (g : Nat) (hx : ρ x = .pointer (some ⟨g, 0, none⟩)) (t : TypeId) (cs : Array Value) (fr : Nat × Nat) (d : TypeDesc) (hC : w.heap[g]? = some (.cells cs t fr))
    (hu : P.underlying ty = some d) (hd : (match d with | .struct _ | .array _ _ => true | _ => false) = true) (hi : (P.info? ty).map (·.size) = some cs.size) : (execOp ρ o).run P w = .ok (.value (.agg cs)) w := by
  unfold execOp
  simp only [ho, hx, Instr.loadAt, Instr.sureAddr, Sem.run_bind, Sem.run_pure, Result.andThen_ok, run_loadVar_row w g t ty cs fr d hC hu hd hi]

/-- What is left stands in one forced order, that of the list. -/
def idxB (md : Region.Mode) (ops : Array Oper) : List Nat → Array Bool → Bool
  | [], listed => (Region.ready md ops listed).isEmpty
  | i :: is, listed => decide (Region.ready md ops listed = [i]) && idxB md ops is (listed.setIfInBounds i true)
theorem wpAny_of_idx {md : Region.Mode} : ∀ (is : List Nat) (l : List Oper) (listed : Array Bool) (a : Act) (w : World), idxB md ops is listed = true → is.map (ops[·]?) = l.map some → wpList P ops Q l a w → wpAny P md ops Q is.length listed a w
  | [], l, listed, a, w, hB, hl, h => by
    cases l with
    | nil => exact ⟨by simpa [idxB] using hB, h⟩
    | cons o l => simp at hl
  | i :: is, l, listed, a, w, hB, hl, h => by
    cases l with
    | nil => simp at hl
    | cons o l =>
      simp only [List.map_cons, List.cons.injEq] at hl
      simp only [idxB, Bool.and_eq_true, decide_eq_true_eq] at hB
      refine ⟨fun h1 => (by rw [hB.1] at h1; cases h1), fun j hj => ?_⟩
      rw [hB.1] at hj
      have hij : j = i := by simpa using hj
      subst hij
      have hw : wpOp P ops Q j (wpList P ops Q l) a w := by unfold wpOp; simp only [hl.1]; exact h
      exact wpOp_mono (fun a' w' h' => wpAny_of_idx is l _ a' w' hB.2 hl.2 h') hw
end
end Go.Proofs.Ythlmphloalbhnaa

/-
  A region that draws its order, where what is left are two chains of operations that know nothing of each other: an invariant that is kept by each step of either chain holds at the end of both.
-/
namespace Go.Proofs.Ythlmphloalbhnaa
open Go.RowKit MS

section
variable {P : Program} {ops : Array Oper} {Q : Exit → Act → World → Prop} {md : Region.Mode}
/-- What has come up behind k1 and k2 steps. -/
def lst (L : Array Bool) (l1 l2 : List Nat) (k1 k2 : Nat) : Array Bool := (l2.take k2).foldl (fun a i => a.setIfInBounds i true) ((l1.take k1).foldl (fun a i => a.setIfInBounds i true) L)
def twoB (md : Region.Mode) (ops : Array Oper) (L : Array Bool) (l1 l2 : List Nat) : Bool :=
  (List.range (l1.length + 1)).all fun k1 => (List.range (l2.length + 1)).all fun k2 => (decide (k1 = l1.length) && decide (k2 = l2.length)) ||
    (!(Region.ready md ops (lst L l1 l2 k1 k2)).isEmpty && (Region.ready md ops (lst L l1 l2 k1 k2)).all fun j =>
      (decide (k1 < l1.length) && decide (j = l1.getD k1 0) && decide ((lst L l1 l2 k1 k2).setIfInBounds j true = lst L l1 l2 (k1 + 1) k2)) ||
      (decide (k2 < l2.length) && decide (j = l2.getD k2 0) && decide ((lst L l1 l2 k1 k2).setIfInBounds j true = lst L l1 l2 k1 (k2 + 1))))

theorem two_chains {L : Array Bool} {f : Nat} (l1 l2 : List Nat) (J : Nat → Nat → Act → World → Prop) (hB : twoB md ops L l1 l2 = true)
    (s1 : ∀ k1 k2 a w, k1 < l1.length → k2 ≤ l2.length → J k1 k2 a w → wpOp P ops Q (l1.getD k1 0) (J (k1 + 1) k2) a w)
    (s2 : ∀ k1 k2 a w, k1 ≤ l1.length → k2 < l2.length → J k1 k2 a w → wpOp P ops Q (l2.getD k2 0) (J k1 (k2 + 1)) a w)
    (hend : ∀ a w, J l1.length l2.length a w → wpAny P md ops Q f (lst L l1 l2 l1.length l2.length) a w) :
    ∀ m k1 k2 a w, (l1.length - k1) + (l2.length - k2) = m → k1 ≤ l1.length → k2 ≤ l2.length → J k1 k2 a w → wpAny P md ops Q (m + f) (lst L l1 l2 k1 k2) a w := by
  have hB' : ∀ k1 k2, k1 ≤ l1.length → k2 ≤ l2.length → ¬ (k1 = l1.length ∧ k2 = l2.length) → Region.ready md ops (lst L l1 l2 k1 k2) ≠ [] ∧ ∀ j ∈ Region.ready md ops (lst L l1 l2 k1 k2),
      (k1 < l1.length ∧ j = l1.getD k1 0 ∧ (lst L l1 l2 k1 k2).setIfInBounds j true = lst L l1 l2 (k1 + 1) k2) ∨ (k2 < l2.length ∧ j = l2.getD k2 0 ∧ (lst L l1 l2 k1 k2).setIfInBounds j true = lst L l1 l2 k1 (k2 + 1)) := by
    intro k1 k2 h1 h2 hne
    have h := List.all_eq_true.1 (List.all_eq_true.1 hB k1 (List.mem_range.2 (by omega))) k2 (List.mem_range.2 (by omega))
    simp only [Bool.or_eq_true, Bool.and_eq_true, decide_eq_true_eq, Bool.not_eq_true', List.all_eq_true] at h
    rcases h with h | h
    · exact absurd h hne
    · refine ⟨fun e => ?_, fun j hj => ?_⟩
      · rw [e] at h
        simp at h
      · rcases h.2 j hj with h3 | h3
        · exact .inl ⟨h3.1.1, h3.1.2, h3.2⟩
        · exact .inr ⟨h3.1.1, h3.1.2, h3.2⟩
  intro m
  induction m with
  | zero =>
    intro k1 k2 a w hm h1 h2 hJ
    have e1 : k1 = l1.length := by omega
    have e2 : k2 = l2.length := by omega
    subst e1 e2
    rw [Nat.zero_add]
    exact hend a w hJ
  | succ m ih =>
    intro k1 k2 a w hm h1 h2 hJ
    obtain ⟨hne, hall⟩ := hB' k1 k2 h1 h2 (by omega)
    rw [show m + 1 + f = (m + f) + 1 by omega]
    refine ⟨fun h0 => absurd h0 hne, fun j hj => ?_⟩
    rcases hall j hj with ⟨hk, rfl, he⟩ | ⟨hk, rfl, he⟩
    · refine wpOp_mono (fun a' w' hJ' => ?_) (s1 k1 k2 a w hk h2 hJ)
      rw [he]
      exact ih (k1 + 1) k2 a' w' (by omega) (by omega) h2 hJ'
    · refine wpOp_mono (fun a' w' hJ' => ?_) (s2 k1 k2 a w h1 hk hJ)
      rw [he]
      exact ih k1 (k2 + 1) a' w' (by omega) h1 (by omega) hJ'
theorem wpOp_val {i d : Nat} {o : Oper} {v : Value} {K : Act → World → Prop} {a : Act} {w : World} (hi : ops[i]? = some o) (hw : Region.wanted o (yielded ops a.tmps) = true) (hd : o.dst = some d)
    (hrun : (execOp a.eval o).run P w = .ok (.value v) w) (h : K (a.put (some d) v) w) : wpOp P ops Q i K a w := by
  unfold wpOp
  simp only [hi]
  rw [if_pos hw]
  refine .inl ?_
  unfold Oper.wp
  rw [hrun]
  simp only [Oper.upon, hd]
  exact h
end
end Go.Proofs.Ythlmphloalbhnaa

/-
  ladder.Clamp, Base; mailsackref04.Clamp: the walks.
-/
namespace Go.Proofs.Ythlmphloalbhnaa
open Go.RowKit MS

theorem vls_get (l : List UInt8) (i : Nat) (h : i < l.length) : (vls l)[i]? = some (.int .u8 ((l.getD i 0).toNat : Int)) := by simp [vls, valB, h]
def clampL (l : List UInt8) : List UInt8 := (l.set 0 (UInt8.ofNat ((l.getD 0 0).toNat - (l.getD 0 0).toNat % 8))).set 31 (UInt8.ofNat ((l.getD 31 0).toNat % 64 + 64))
def clampB (s : ByteArray) : ByteArray := bs (clampL (ls s))
theorem length_clampL (l : List UInt8) : (clampL l).length = l.length := by simp [clampL]
theorem and248 : ∀ n : Fin 256, bits .and .u8 ((n.val : Nat) : Int) 248 = ((UInt8.ofNat (n.val - n.val % 8)).toNat : Int) := by decide +kernel
theorem and127 : ∀ n : Fin 256, bits .or .u8 (bits .and .u8 ((n.val : Nat) : Int) 127) 64 = ((UInt8.ofNat (n.val % 64 + 64)).toNat : Int) := by decide +kernel

set_option maxRecDepth 1000000 in
set_option maxHeartbeats 1000000 in
theorem clamp_no (s : ByteArray) (w : World) (hs : s.size ≠ 32) : Calls Try.prog 31 #[.string s] w fun e w' => e = .returned (.tuple #[.string ⟨#[]⟩, .bool false]) ∧ Below w.heap.size w w' := by
  have h1 : ¬ (s.size : Int) = 32 := by omega
  have h2 : ((s.size : Int) != 32) = true := by simp; omega
  clear hs
  go_enter Try.func31, Try.ntmps31
  go_wp2_with fail
  go_ret2
  exact ⟨rfl, Below.refl _ _⟩

set_option maxRecDepth 1000000 in
set_option maxHeartbeats 1000000 in
theorem clamp_yes (s : ByteArray) (w : World) (hs : s.size = 32) : Calls Try.prog 31 #[.string s] w fun e w' => e = .returned (.tuple #[.string (clampB s), .bool true]) ∧ Below w.heap.size w w' := by
  have h1 : (s.size : Int) = 32 := by omega
  have h2 : ((s.size : Int) != 32) = false := by simp; omega
  have hl : (ls s).length = 32 := by rw [length_ls]; exact hs
  have B0 := Lib.hid (Below.refl w.heap.size w)
  have HL := Lib.hid hl
  have HS := Lib.hid hs
  have HC := Lib.hid (show clampB s = bs (((ls s).set 0 (UInt8.ofNat (((ls s).getD 0 0).toNat - ((ls s).getD 0 0).toNat % 8))).set 31 (UInt8.ofNat (((ls s).getD 31 0).toNat % 64 + 64))) from rfl)
  generalize clampB s = R at HC ⊢
  clear hs hl
  go_enter Try.func31, Try.ntmps31
  go_wp2_with (refine wpList_conv_own rfl (.tmp 8) 9 54 5 rfl s rfl Try.underlying9 Try.underlying54 Try.underlying5 w.heap.size 32 HS.out (Nat.le_refl _) (by decide) ?_)
  intro g cap w3 o3 hb3
  have O3 := Lib.hid (show ownsF w3 w.heap.size 5 (.slice (some ⟨g, 0, none⟩) 32 cap) 32 (vls (ls s)) from o3)
  have B3 := Lib.hid hb3
  clear o3 hb3
  have c0 := O3.out.cell 0 (by decide)
  have c31 := O3.out.cell 31 (by decide)
  have f0 := O3.out.free 0 (by decide)
  have f31 := O3.out.free 31 (by decide)
  rw [vls_get _ _ (by rw [HL.out]; decide)] at c0 c31
  have e0 := and248 ⟨((ls s).getD 0 0).toNat, UInt8.toNat_lt _⟩
  have e1 := and127 ⟨((ls s).getD 31 0).toNat, UInt8.toNat_lt _⟩
  simp only at e0 e1
  have hp := ((O3.out.put 0 (.int .u8 ((UInt8.ofNat (((ls s).getD 0 0).toNat - ((ls s).getD 0 0).toNat % 8)).toNat : Int))).put 31 (.int .u8 (bits .and .u8 (((ls s).getD 31 0).toNat : Int) 127))).put 31 (.int .u8 ((UInt8.ofNat (((ls s).getD 31 0).toNat % 64 + 64)).toNat : Int))
  rw [List.set_set] at hp
  have hconv := ownsF_conv _ w.heap.size 54 9 5 Try.underlying54 Try.underlying5 Try.underlying9 (l := ((ls s).set 0 (UInt8.ofNat (((ls s).getD 0 0).toNat - ((ls s).getD 0 0).toNat % 8))).set 31 (UInt8.ofNat (((ls s).getD 31 0).toNat % 64 + 64))) (by rw [List.map_set, List.map_set]; exact hp) 0 32 cap (by decide)
  rw [List.drop_zero, List.take_of_length_le (by rw [List.length_set, List.length_set, HL.out]; decide), ← HC.out] at hconv
  have hge := O3.out.ge
  have HBE := Lib.hid (((B3.out.setCell (p := ⟨g, 0, none⟩) hge (.int .u8 ((UInt8.ofNat (((ls s).getD 0 0).toNat - ((ls s).getD 0 0).toNat % 8)).toNat : Int))).setCell (p := ⟨g, 31, none⟩) hge (.int .u8 (bits .and .u8 (((ls s).getD 31 0).toNat : Int) 127))).setCell (p := ⟨g, 31, none⟩) hge (.int .u8 ((UInt8.ofNat (((ls s).getD 31 0).toNat % 64 + 64)).toNat : Int)))
  generalize (UInt8.ofNat (((ls s).getD 31 0).toNat % 64 + 64)).toNat = y31 at *
  generalize (UInt8.ofNat (((ls s).getD 0 0).toNat - ((ls s).getD 0 0).toNat % 8)).toNat = y0 at *
  generalize ((ls s).getD 31 0).toNat = x31 at *
  generalize ((ls s).getD 0 0).toNat = x0 at *
  clear hp hge
  go_wp2_with fail
  go_ret2
  exact ⟨rfl, HBE.out⟩

theorem clampB_parts (s : ByteArray) (hs : s.size = 32) : bs [UInt8.ofNat (((ls s).getD 0 0).toNat - ((ls s).getD 0 0).toNat % 8)] ++ s.extract 1 31 ++ bs [UInt8.ofNat (((ls s).getD 31 0).toNat % 64 + 64)] = clampB s := by
  have hl : (ls s).length = 32 := by rw [length_ls]; exact hs
  apply ls_inj
  rw [ls_append, ls_append, ls_extract, clampB, ls_bs, ls_bs, ls_bs]
  unfold clampL
  generalize ls s = l at hl
  match l, hl with
  | [a0, a1, a2, a3, a4, a5, a6, a7, a8, a9, a10, a11, a12, a13, a14, a15, a16, a17, a18, a19, a20, a21, a22, a23, a24, a25, a26, a27, a28, a29, a30, a31], _ => rfl

def q1 (c1 c2 : Value) : Nat → Value → Act → Act
  | 0, _, a => a
  | 1, s, a => a.put (some 16) s
  | 2, s, a => (a.put (some 16) s).put (some 17) c1
  | _, s, a => ((a.put (some 16) s).put (some 17) c1).put (some 20) c2
def q2 (c : Value) : Nat → Value → Act → Act
  | 0, _, a => a
  | 1, s, a => a.put (some 25) s
  | _, s, a => (a.put (some 25) s).put (some 26) c
theorem put_swap (a : Act) (x y : Nat) (v u : Value) (h : x ≠ y) : (a.put (some x) v).put (some y) u = (a.put (some y) u).put (some x) v := Act.put_comm a v u (by intro d hd e; cases hd; cases e; exact h rfl)
theorem q2_put (c s v : Value) (k d : Nat) (a : Act) (h1 : 25 ≠ d) (h2 : 26 ≠ d) : (q2 c k s a).put (some d) v = q2 c k s (a.put (some d) v) := by
  match k with
  | 0 => rfl
  | 1 => exact put_swap _ _ _ _ _ h1
  | k + 2 =>
    show ((a.put (some 25) s).put (some 26) c).put (some d) v = ((a.put (some d) v).put (some 25) s).put (some 26) c
    rw [put_swap _ _ _ _ _ h2, put_swap _ _ _ _ _ h1]
theorem q2_eval (c s : Value) (k j : Nat) (a : Act) (h1 : 25 ≠ j) (h2 : 26 ≠ j) : (q2 c k s a).eval (.tmp j) = a.eval (.tmp j) := by
  match k with
  | 0 => rfl
  | 1 => exact Act.eval_put_ne _ _ _ _ h1
  | k + 2 =>
    show ((a.put (some 25) s).put (some 26) c).eval (.tmp j) = a.eval (.tmp j)
    rw [Act.eval_put_ne _ _ _ _ h2, Act.eval_put_ne _ _ _ _ h1]
theorem q1_eval (c1 c2 s : Value) (k j : Nat) (a : Act) (h1 : 16 ≠ j) (h2 : 17 ≠ j) (h3 : 20 ≠ j) : (q1 c1 c2 k s a).eval (.tmp j) = a.eval (.tmp j) := by
  match k with
  | 0 => rfl
  | 1 => exact Act.eval_put_ne _ _ _ _ h1
  | 2 =>
    show ((a.put (some 16) s).put (some 17) c1).eval (.tmp j) = a.eval (.tmp j)
    rw [Act.eval_put_ne _ _ _ _ h2, Act.eval_put_ne _ _ _ _ h1]
  | k + 3 =>
    show (((a.put (some 16) s).put (some 17) c1).put (some 20) c2).eval (.tmp j) = a.eval (.tmp j)
    rw [Act.eval_put_ne _ _ _ _ h3, Act.eval_put_ne _ _ _ _ h2, Act.eval_put_ne _ _ _ _ h1]
theorem put_sz (a : Act) (d : Option Nat) (v : Value) : (a.put d v).tmps.size = a.tmps.size := by cases d <;> simp [Act.put]
theorem q1_size (c1 c2 s : Value) (k : Nat) (a : Act) : (q1 c1 c2 k s a).tmps.size = a.tmps.size := by
  match k with
  | 0 => rfl
  | 1 => exact put_sz _ _ _
  | 2 => simp only [q1, put_sz]
  | k + 3 => simp only [q1, put_sz]

/-- The last statement of Clamp, its pure operations behind it: two strings of one byte each are made, in whatever order, and joined. -/
theorem clamp_region {ops : Array Oper} {Q : Exit → Act → World → Prop} {A : Act} {w w0 : World} {o5 o6 o9 o14 o15 o16 o17 : Oper} {x y : UInt8} {m : ByteArray} {L : Array Bool}
    (h5 : ops[5]? = some o5) (h6 : ops[6]? = some o6) (h9 : ops[9]? = some o9) (h14 : ops[14]? = some o14) (h15 : ops[15]? = some o15) (h16 : ops[16]? = some o16) (h17 : ops[17]? = some o17)
    (g5 : o5.guard = none) (g6 : o6.guard = none) (g9 : o9.guard = none) (g14 : o14.guard = none) (g15 : o15.guard = none) (g16 : o16.guard = none) (g17 : o17.guard = none)
    (d5 : o5.dst = some 16) (d6 : o6.dst = some 17) (d9 : o9.dst = some 20) (d14 : o14.dst = some 25) (d15 : o15.dst = some 26) (d16 : o16.dst = some 27) (d17 : o17.dst = some 2)
    (p5 : o5.op = .buildSlice 54 1 #[(0, .tmp 15)]) (p6 : o6.op = .convert 54 9 (.tmp 16)) (p9 : o9.op = .binOp .add 9 (.tmp 17) (.tmp 19) 9)
    (p14 : o14.op = .buildSlice 54 1 #[(0, .tmp 24)]) (p15 : o15.op = .convert 54 9 (.tmp 25)) (p16 : o16.op = .binOp .add 9 (.tmp 20) (.tmp 26) 9) (p17 : o17.op = .assign (.tmp 27))
    (hB : twoB .any ops L [5, 6, 9] [14, 15] = true) (r1 : Region.ready .any ops (lst L [5, 6, 9] [14, 15] 3 2) = [16]) (r2 : Region.ready .any ops ((lst L [5, 6, 9] [14, 15] 3 2).setIfInBounds 16 true) = [17])
    (r3 : Region.ready .any ops (((lst L [5, 6, 9] [14, 15] 3 2).setIfInBounds 16 true).setIfInBounds 17 true) = []) (hsz : 28 ≤ A.tmps.size)
    (hx : A.eval (.tmp 15) = .int .u8 (x.toNat : Int)) (hy : A.eval (.tmp 24) = .int .u8 (y.toNat : Int)) (hm : A.eval (.tmp 19) = .string m) (hms : m.size ≤ 1000) (hb : Below w0.heap.size w0 w)
    (hK : ∀ s16 s25 w', Below w0.heap.size w0 w' → Q .normal (((((((A.put (some 16) s16).put (some 17) (.string (bs [x]))).put (some 20) (.string (bs [x] ++ m))).put (some 25) s25).put (some 26) (.string (bs [y]))).put (some 27) (.string (bs [x] ++ m ++ bs [y]))).put (some 2) (.string (bs [x] ++ m ++ bs [y]))) w') :
    wpAny Try.prog .any ops Q 7 (lst L [5, 6, 9] [14, 15] 0 0) A w := by
  have same : ∀ (a : Act) (d : Nat) v, d < a.tmps.size → (a.put (some d) v).eval (.tmp d) = v := Act.eval_put_same
  have wn : ∀ (o : Oper) (a : Act), o.guard = none → Region.wanted o (yielded ops a.tmps) = true := fun o a h => by simp [Region.wanted, h]
  have cv : ∀ (w' : World) (g : Nat) (b : UInt8), w'.heap[g]? = some (.cells #[.int .u8 (b.toNat : Int)] 5 (0, 0)) → (convert 54 9 (.slice (some ⟨g, 0, none⟩) 1 1)).run Try.prog w' = .ok (.string (bs [b])) w' := fun w' g b hr =>
    run_block_to_string w' 54 9 5 Try.underlying54 Try.underlying5 Try.underlying9 g 1 1 5 (0, 0) [b] _ hr rfl (fun j hj => by
      have h0 : j = 0 := by simpa using hj
      subst h0
      rfl)
  have ad : ∀ (o : Oper) (a : Act) (p q : Nat) (b c : ByteArray) (w' : World), o.op = .binOp .add 9 (.tmp p) (.tmp q) 9 → a.eval (.tmp p) = .string b → a.eval (.tmp q) = .string c → b.size ≤ 2000 → c.size ≤ 2000 → (execOp a.eval o).run Try.prog w' = .ok (.value (.string (b ++ c))) w' := fun o a p q b c w' ho hp hq k1 k2 => by
    have k3 : (b.size : Int) + c.size ≤ 4000 := by omega
    unfold execOp
    simp only [ho, hp, hq]
    go_simp
    omega
  let c1 : Value := .string (bs [x])
  let c2 : Value := .string (bs [x] ++ m)
  let cc : Value := .string (bs [y])
  refine two_chains (f := 2) [5, 6, 9] [14, 15] (fun k1 k2 a w' => ∃ s16 s25, a = q2 cc k2 s25 (q1 c1 c2 k1 s16 A) ∧ Below w0.heap.size w0 w' ∧ (k1 = 1 → ∃ g, s16 = .slice (some ⟨g, 0, none⟩) 1 1 ∧ w'.heap[g]? = some (.cells #[.int .u8 (x.toNat : Int)] 5 (0, 0))) ∧
    (k2 = 1 → ∃ g, s25 = .slice (some ⟨g, 0, none⟩) 1 1 ∧ w'.heap[g]? = some (.cells #[.int .u8 (y.toNat : Int)] 5 (0, 0)))) hB ?_ ?_ ?_ 5 0 0 A w rfl (by decide) (by decide) ⟨undef, undef, rfl, hb, fun h => absurd h (by decide), fun h => absurd h (by decide)⟩
  · intro k1 k2 a w' hk1 hk2 ⟨s16, s25, ha, hb', f1, f2⟩
    have keep : ∀ (g : Nat) (o o' : Obj), w'.heap[g]? = some o → (w'.alloc o').heap[g]? = some o := fun g o o' h => by rw [heap_alloc_old _ _ (Array.getElem?_eq_some_iff.1 h).1]; exact h
    match k1, hk1 with
    | 0, _ =>
      refine wpOp_build1 (u := .int .u8 (x.toNat : Int)) h5 g5 d5 p5 (run_build_u8 _ _ rfl) (by rw [ha, q2_eval _ _ _ _ _ (by decide) (by decide)]; exact hx) ⟨.slice (some ⟨w'.heap.size, 0, none⟩) 1 1, s25, ?_, below_alloc hb' _, fun _ => ⟨_, rfl, heap_alloc_new _ _⟩, fun h => ?_⟩
      · rw [ha, q2_put _ _ _ _ _ _ (by decide) (by decide)]
        rfl
      · obtain ⟨g, e1, e2⟩ := f2 h
        exact ⟨g, e1, keep _ _ _ e2⟩
    | 1, _ =>
      obtain ⟨g, e1, e2⟩ := f1 rfl
      have hev : a.eval (.tmp 16) = .slice (some ⟨g, 0, none⟩) 1 1 := by
        rw [ha, q2_eval _ _ _ _ _ (by decide) (by decide), ← e1]
        exact same _ _ _ (by omega)
      refine wpOp_val (v := c1) h6 (wn _ _ g6) d6 (by unfold execOp; simp only [p6, hev]; rw [Sem.run_bind, cv _ _ _ e2]; rfl) ⟨s16, s25, ?_, hb', fun h => absurd h (by decide), f2⟩
      rw [ha, q2_put _ _ _ _ _ _ (by decide) (by decide)]
      rfl
    | 2, _ =>
      have hev : a.eval (.tmp 17) = .string (bs [x]) := by
        rw [ha, q2_eval _ _ _ _ _ (by decide) (by decide)]
        exact same _ _ _ (by rw [put_sz]; omega)
      have hev2 : a.eval (.tmp 19) = .string m := by
        rw [ha, q2_eval _ _ _ _ _ (by decide) (by decide), q1_eval _ _ _ _ _ _ (by decide) (by decide) (by decide)]
        exact hm
      refine wpOp_val (v := c2) h9 (wn _ _ g9) d9 (ad _ _ _ _ _ _ _ p9 hev hev2 (by rw [size_bs]; simp) (by omega)) ⟨s16, s25, ?_, hb', fun h => absurd h (by decide), f2⟩
      rw [ha, q2_put _ _ _ _ _ _ (by decide) (by decide)]
      rfl
  · intro k1 k2 a w' hk1 hk2 ⟨s16, s25, ha, hb', f1, f2⟩
    have keep : ∀ (g : Nat) (o o' : Obj), w'.heap[g]? = some o → (w'.alloc o').heap[g]? = some o := fun g o o' h => by rw [heap_alloc_old _ _ (Array.getElem?_eq_some_iff.1 h).1]; exact h
    match k2, hk2 with
    | 0, _ =>
      refine wpOp_build1 (u := .int .u8 (y.toNat : Int)) h14 g14 d14 p14 (run_build_u8 _ _ rfl) (by rw [ha, q2_eval _ _ _ _ _ (by decide) (by decide), q1_eval _ _ _ _ _ _ (by decide) (by decide) (by decide)]; exact hy) ⟨s16, .slice (some ⟨w'.heap.size, 0, none⟩) 1 1, ?_, below_alloc hb' _, fun h => ?_, fun _ => ⟨_, rfl, heap_alloc_new _ _⟩⟩
      · rw [ha]
        rfl
      · obtain ⟨g, e1, e2⟩ := f1 h
        exact ⟨g, e1, keep _ _ _ e2⟩
    | 1, _ =>
      obtain ⟨g, e1, e2⟩ := f2 rfl
      have hev : a.eval (.tmp 25) = .slice (some ⟨g, 0, none⟩) 1 1 := by
        rw [ha, ← e1]
        exact same _ _ _ (by rw [q1_size]; omega)
      refine wpOp_val (v := cc) h15 (wn _ _ g15) d15 (by unfold execOp; simp only [p15, hev]; rw [Sem.run_bind, cv _ _ _ e2]; rfl) ⟨s16, s25, ?_, hb', f1, fun h => absurd h (by decide)⟩
      rw [ha]
      rfl
  · rintro a w' ⟨s16, s25, rfl, hb', -, -⟩
    have e1 : ((((((A.put (some 16) s16).put (some 17) c1).put (some 20) c2).put (some 25) s25).put (some 26) cc)).eval (.tmp 20) = .string (bs [x] ++ m) := by
      rw [Act.eval_put_ne _ _ _ _ (by decide), Act.eval_put_ne _ _ _ _ (by decide)]
      exact same _ _ _ (by simp only [put_sz]; omega)
    have e2 : ((((((A.put (some 16) s16).put (some 17) c1).put (some 20) c2).put (some 25) s25).put (some 26) cc)).eval (.tmp 26) = .string (bs [y]) := same _ _ _ (by simp only [put_sz]; omega)
    refine wpAny_all (rs := [16]) r1 (by simp) (List.forall_mem_singleton.2 ?_)
    refine wpOp_val (v := .string (bs [x] ++ m ++ bs [y])) h16 (wn _ _ g16) d16 (ad _ _ _ _ _ _ _ p16 e1 e2 (by rw [ByteArray.size_append, size_bs]; simp; omega) (by rw [size_bs]; simp)) ?_
    refine wpAny_all (rs := [17]) r2 (by simp) (List.forall_mem_singleton.2 ?_)
    refine wpOp_assign h17 g17 d17 p17 (same _ _ _ (by show 27 < ((((((A.put (some 16) s16).put (some 17) c1).put (some 20) c2).put (some 25) s25).put (some 26) cc)).tmps.size; simp only [put_sz]; omega)) ?_
    exact wpAny_done r3 (hK _ _ _ hb') _

set_option maxRecDepth 1000000 in
set_option maxHeartbeats 4000000 in
theorem rclamp_any (s : ByteArray) (w : World) (hs : s.size = 32) : Calls Try.prog 32 #[.string s] w fun e w' => e = .returned (.string (clampB s)) ∧ Below w.heap.size w w' := by
  have h1 : (0 : Int) < s.size := by omega
  have h2 : (31 : Int) < s.size := by omega
  have h3 : (31 : Int) ≤ s.size := by omega
  have h4 : (1 : Int) ≤ s.size := by omega
  have hg0 := ls_get s 0 (by omega)
  have hg31 := ls_get s 31 (by omega)
  have HP := Lib.hid (clampB_parts s hs)
  have HX : (s.extract 1 31).size = 30 := by simp [hs]
  have k0 : ((ls s).getD 0 0).toNat < 256 := UInt8.toNat_lt _
  have k31 : ((ls s).getD 31 0).toNat < 256 := UInt8.toNat_lt _
  generalize clampB s = R at HP ⊢
  generalize (ls s).getD 0 0 = x0 at *
  generalize (ls s).getD 31 0 = x31 at *
  have B0 := Lib.hid (Below.refl w.heap.size w)
  go_enter Try.func32, Try.ntmps32
  go_wp2_with fail
  go_quiet (fail)
  go_wp2_with fail
  have e0 : IntKind.u8.wrap ((x0.toNat : Int) - (x0.toNat : Int) % 8) = ((UInt8.ofNat (x0.toNat - x0.toNat % 8)).toNat : Int) := by
    rw [wr_u8 _ (by omega) (by omega), UInt8.toNat_ofNat', Nat.mod_eq_of_lt (by omega)]
    omega
  have e1 : IntKind.u8.wrap ((x31.toNat : Int) % 64 + 64) = ((UInt8.ofNat (x31.toNat % 64 + 64)).toNat : Int) := by
    rw [wr_u8 _ (by omega) (by omega), UInt8.toNat_ofNat', Nat.mod_eq_of_lt (by omega)]
    omega
  refine wp_region_any (by kernel_rfl) ?_
  change wpAny _ _ _ _ _ _ _ (World.drew _)
  refine wpAny_take_at (i := 0) (d := 11) (v := .int .i64 (x0.toNat : Int)) rfl (by kernel_rfl) (by kernel_rfl) (by kernel_rfl) (fun _ _ _ h => h) rfl (Or.inl ⟨by rfl, by intro w1; go_simp⟩) ?_
  simp only [Act.put, List.setIfInBounds_toArray, List.set_cons_zero, List.set_cons_succ]
  refine wpAny_take_at (i := 1) (d := 12) (v := .int .i64 (x0.toNat : Int)) rfl (by kernel_rfl) (by kernel_rfl) (by kernel_rfl) (fun _ _ _ h => h) rfl (Or.inl ⟨by rfl, by intro w1; go_simp⟩) ?_
  simp only [Act.put, List.setIfInBounds_toArray, List.set_cons_zero, List.set_cons_succ]
  refine wpAny_take_at (i := 2) (d := 13) (v := .int .i64 ((x0.toNat : Int) % 8)) rfl (by kernel_rfl) (by kernel_rfl) (by kernel_rfl) (fun _ _ _ h => h) rfl (Or.inl ⟨by rfl, by intro w1; go_simp; exact Int.tmod_eq_emod_of_nonneg (Int.natCast_nonneg _)⟩) ?_
  simp only [Act.put, List.setIfInBounds_toArray, List.set_cons_zero, List.set_cons_succ]
  refine wpAny_take_at (i := 3) (d := 14) (v := .int .i64 ((x0.toNat : Int) - (x0.toNat : Int) % 8)) rfl (by kernel_rfl) (by kernel_rfl) (by kernel_rfl) (fun _ _ _ h => h) rfl (Or.inl ⟨by rfl, by intro w1; go_simp; exact wr_i64 _ (by omega) (by omega)⟩) ?_
  simp only [Act.put, List.setIfInBounds_toArray, List.set_cons_zero, List.set_cons_succ]
  refine wpAny_take_at (i := 4) (d := 15) (v := .int .u8 ((UInt8.ofNat (x0.toNat - x0.toNat % 8)).toNat : Int)) rfl (by kernel_rfl) (by kernel_rfl) (by kernel_rfl) (fun _ _ _ h => h) rfl (Or.inl ⟨by rfl, by intro w1; go_simp⟩) ?_
  simp only [Act.put, List.setIfInBounds_toArray, List.set_cons_zero, List.set_cons_succ]
  refine wpAny_take_at (i := 7) (d := 18) (v := .string s) rfl (by kernel_rfl) (by kernel_rfl) (by kernel_rfl) (fun _ _ _ h => h) rfl (Or.inl ⟨by rfl, by intro w1; go_simp⟩) ?_
  simp only [Act.put, List.setIfInBounds_toArray, List.set_cons_zero, List.set_cons_succ]
  refine wpAny_take_at (i := 8) (d := 19) (v := .string (s.extract 1 31)) rfl (by kernel_rfl) (by kernel_rfl) (by kernel_rfl) (fun _ _ _ h => h) rfl (Or.inl ⟨by rfl, by intro w1; go_simp⟩) ?_
  simp only [Act.put, List.setIfInBounds_toArray, List.set_cons_zero, List.set_cons_succ]
  refine wpAny_take_at (i := 10) (d := 21) (v := .int .i64 (x31.toNat : Int)) rfl (by kernel_rfl) (by kernel_rfl) (by kernel_rfl) (fun _ _ _ h => h) rfl (Or.inl ⟨by rfl, by intro w1; go_simp⟩) ?_
  simp only [Act.put, List.setIfInBounds_toArray, List.set_cons_zero, List.set_cons_succ]
  refine wpAny_take_at (i := 11) (d := 22) (v := .int .i64 ((x31.toNat : Int) % 64)) rfl (by kernel_rfl) (by kernel_rfl) (by kernel_rfl) (fun _ _ _ h => h) rfl (Or.inl ⟨by rfl, by intro w1; go_simp; exact Int.tmod_eq_emod_of_nonneg (Int.natCast_nonneg _)⟩) ?_
  simp only [Act.put, List.setIfInBounds_toArray, List.set_cons_zero, List.set_cons_succ]
  refine wpAny_take_at (i := 12) (d := 23) (v := .int .i64 ((x31.toNat : Int) % 64 + 64)) rfl (by kernel_rfl) (by kernel_rfl) (by kernel_rfl) (fun _ _ _ h => h) rfl (Or.inl ⟨by rfl, by intro w1; go_simp; exact wr_i64 _ (by omega) (by omega)⟩) ?_
  simp only [Act.put, List.setIfInBounds_toArray, List.set_cons_zero, List.set_cons_succ]
  refine wpAny_take_at (i := 13) (d := 24) (v := .int .u8 ((UInt8.ofNat (x31.toNat % 64 + 64)).toNat : Int)) rfl (by kernel_rfl) (by kernel_rfl) (by kernel_rfl) (fun _ _ _ h => h) rfl (Or.inl ⟨by rfl, by intro w1; go_simp⟩) ?_
  simp only [Act.put, List.setIfInBounds_toArray, List.set_cons_zero, List.set_cons_succ]
  change wpAny _ _ _ _ 7 (lst #[true, true, true, true, true, false, false, true, true, false, true, true, true, true, false, false, false, false] [5, 6, 9] [14, 15] 0 0) _ _
  refine clamp_region (x := UInt8.ofNat (x0.toNat - x0.toNat % 8)) (y := UInt8.ofNat (x31.toNat % 64 + 64)) (m := s.extract 1 31) (w0 := w) (by rfl) (by rfl) (by rfl) (by rfl) (by rfl) (by rfl) (by rfl) (by rfl) (by rfl) (by rfl) (by rfl) (by rfl) (by rfl) (by rfl) (by rfl) (by rfl) (by rfl) (by rfl) (by rfl) (by rfl) (by rfl) (by rfl) (by rfl) (by rfl) (by rfl) (by rfl) (by rfl) (by rfl)
    (by kernel_rfl) (by kernel_rfl) (by kernel_rfl) (by kernel_rfl) (by simp) (by rfl) (by rfl) (by rfl) (by omega) (below_drewN B0.out nq).drew ?_
  intro s16 s25 w1 hb1
  rw [HP.out]
  simp only [Act.put, List.setIfInBounds_toArray, List.set_cons_zero, List.set_cons_succ]
  go_wp2_with fail
  go_ret
  exact ⟨rfl, hb1⟩

theorem conv_block (w : World) (g T : Nat) (l : List UInt8) (n : Nat) (hl : l.length = n) (hb : w.heap[g]? = some (.cells (vls l).toArray T (0, 0))) :
    (convert 54 9 (.slice (some ⟨g, 0, none⟩) n n)).run Try.prog w = .ok (.string (bs l)) w := by
  refine run_block_to_string w 54 9 5 Try.underlying54 Try.underlying5 Try.underlying9 g n n T (0, 0) l (cs := (vls l).toArray) hb hl (fun j hj => ?_)
  simp [vls, valB, hj]
set_option maxRecDepth 1000000 in
set_option maxHeartbeats 1000000 in
theorem base_any (w : World) : Calls Try.prog 33 #[] w fun e w' => e = .returned (.string (bs (9 :: List.replicate 31 0))) ∧ Below w.heap.size w w' := by
  have B0 := Lib.hid (Below.refl w.heap.size w)
  have hconv := conv_block (w.alloc (.cells #[.int .u8 9, .int .u8 0, .int .u8 0, .int .u8 0, .int .u8 0, .int .u8 0, .int .u8 0, .int .u8 0, .int .u8 0, .int .u8 0, .int .u8 0, .int .u8 0, .int .u8 0, .int .u8 0, .int .u8 0, .int .u8 0, .int .u8 0, .int .u8 0, .int .u8 0, .int .u8 0, .int .u8 0, .int .u8 0, .int .u8 0, .int .u8 0, .int .u8 0, .int .u8 0, .int .u8 0, .int .u8 0, .int .u8 0, .int .u8 0, .int .u8 0, .int .u8 0] 60 (0, 0))) w.heap.size 60 (9 :: List.replicate 31 0) 32 rfl (heap_alloc_new _ _)
  go_enter Try.func33, Try.ntmps33
  go_wp2_with fail
  go_ret
  exact ⟨rfl, below_alloc B0.out _⟩
end Go.Proofs.Ythlmphloalbhnaa

/-
  fe.Of: the walk.
-/
namespace Go.Proofs.Ythlmphloalbhnaa
open Go.RowKit MS

/-- The first j bytes as a number, the lowest one first. -/
def leP (l : List UInt8) : Nat → Nat
  | 0 => 0
  | j + 1 => leP l j + (l.getD j 0).toNat * 2 ^ (8 * j)
theorem leP_lt (l : List UInt8) (j : Nat) : leP l j < 2 ^ (8 * j) := by
  induction j with
  | zero => show 0 < 1; decide
  | succ j ih =>
    have h := UInt8.toNat_lt (l.getD j 0)
    rw [leP, show 8 * (j + 1) = 8 * j + 8 by omega, Nat.pow_add]
    have : (l.getD j 0).toNat * 2 ^ (8 * j) ≤ 255 * 2 ^ (8 * j) := Nat.mul_le_mul_right _ (by omega)
    omega
theorem wd_at (l : List UInt8) (j : Nat) : wd (leP l (j + 1)) (j / 8) = wd (leP l j) (j / 8) + (l.getD j 0).toNat * 2 ^ (8 * (j % 8)) ∧ wd (leP l j) (j / 8) < 2 ^ (8 * (j % 8)) := by
  have hv := leP_lt l j
  have hb := UInt8.toNat_lt (l.getD j 0)
  rw [leP]
  generalize leP l j = v at *
  generalize (l.getD j 0).toNat = b at *
  have e : 8 * j = 64 * (j / 8) + 8 * (j % 8) := by omega
  have hr : j % 8 < 8 := Nat.mod_lt _ (by decide)
  generalize j / 8 = q at *
  generalize j % 8 = r at *
  rw [e, Nat.pow_add] at hv
  have hdiv : v / 2 ^ (64 * q) < 2 ^ (8 * r) := Nat.div_lt_of_lt_mul hv
  have h64 : 2 ^ (8 * r) * 256 ≤ 18446744073709551616 := by
    rw [show (256 : Nat) = 2 ^ 8 by decide, ← Nat.pow_add, show (18446744073709551616 : Nat) = 2 ^ 64 by decide]
    exact Nat.pow_le_pow_right (by decide) (by omega)
  have hbm : b * 2 ^ (8 * r) ≤ 255 * 2 ^ (8 * r) := Nat.mul_le_mul_right _ (by omega)
  unfold wd
  rw [e, Nat.pow_add, ← Nat.mul_assoc, Nat.mul_comm b, Nat.mul_assoc, Nat.add_mul_div_left _ _ (Nat.pow_pos (by decide))]
  generalize v / 2 ^ (64 * q) = u at *
  generalize 2 ^ (8 * r) = m at *
  rw [Nat.mod_eq_of_lt (by omega), Nat.mod_eq_of_lt (by omega)]
  exact ⟨rfl, hdiv⟩
theorem wd_other (l : List UInt8) (j q : Nat) (hq : q ≠ j / 8) : wd (leP l (j + 1)) q = wd (leP l j) q := by
  have hv := leP_lt l j
  have hv1 := leP_lt l (j + 1)
  rw [leP] at hv1 ⊢
  generalize leP l j = v at *
  generalize (l.getD j 0).toNat = b at *
  unfold wd
  rcases Nat.lt_or_ge q (j / 8) with h | h
  · obtain ⟨d, hd⟩ : ∃ d, 8 * j = 64 * q + (64 + d) := ⟨8 * j - 64 * q - 64, by omega⟩
    rw [hd, Nat.pow_add, Nat.pow_add 2 64 d, ← Nat.mul_assoc, Nat.mul_comm b, Nat.mul_assoc, Nat.add_mul_div_left _ _ (Nat.pow_pos (by decide)), Nat.mul_comm b, Nat.mul_assoc, show (2 : Nat) ^ 64 = 18446744073709551616 by decide, Nat.add_mul_mod_self_left]
  · have hp : 2 ^ (8 * (j + 1)) ≤ 2 ^ (64 * q) := Nat.pow_le_pow_right (by decide) (by omega)
    rw [Nat.div_eq_of_lt (Nat.lt_of_lt_of_le hv1 hp), Nat.div_eq_of_lt (Nat.lt_of_le_of_lt (Nat.le_add_right _ _) (Nat.lt_of_lt_of_le hv1 hp))]
theorem wdRow_step (l : List UInt8) (j : Nat) (hj : j < 32) : (wdRow (leP l j)).setIfInBounds (j / 8) (.int .u64 ((wd (leP l (j + 1)) (j / 8) : Nat) : Int)) = wdRow (leP l (j + 1)) := by
  have h4 : j / 8 = 0 ∨ j / 8 = 1 ∨ j / 8 = 2 ∨ j / 8 = 3 := by omega
  have o := fun q hq => wd_other l j q hq
  unfold wdRow
  rcases h4 with h | h | h | h <;> rw [h] at o ⊢
  · rw [o 1 (by decide), o 2 (by decide), o 3 (by decide)]; rfl
  · rw [o 0 (by decide), o 2 (by decide), o 3 (by decide)]; rfl
  · rw [o 0 (by decide), o 1 (by decide), o 3 (by decide)]; rfl
  · rw [o 0 (by decide), o 1 (by decide), o 2 (by decide)]; rfl
/-- The limbs of the words. -/
def ofN (v : Nat) : N5 := ⟨v % 2251799813685248, v / 2251799813685248 % 2251799813685248, v / 5070602400912917605986812821504 % 2251799813685248, v / 11417981541647679048466287755595961091061972992 % 2251799813685248, v / 25711008708143844408671393477458601640355247900524685364822016 % 2251799813685248⟩
theorem ofN_v (v : Nat) : (ofN v).v = v % 57896044618658097711785492504343953926634992332820282019728792003956564819968 := by
  simp only [ofN, N5.v]
  omega
theorem ofN_ok (v : Nat) : (ofN v).ok := by
  simp only [ofN, N5.ok]
  omega
theorem ofN_words (v : Nat) : (ofN v).a = wd v 0 % 2251799813685248 ∧ (ofN v).b = (wd v 0 / 2251799813685248 + wd v 1 % 274877906944 * 8192) % 2251799813685248 ∧ (ofN v).c = (wd v 1 / 274877906944 + wd v 2 % 33554432 * 67108864) % 2251799813685248 ∧
    (ofN v).d = (wd v 2 / 33554432 + wd v 3 % 4096 * 549755813888) % 2251799813685248 ∧ (ofN v).e = wd v 3 / 4096 % 2251799813685248 := by
  simp only [ofN, wd]
  refine ⟨?_, ?_, ?_, ?_, ?_⟩ <;> omega

/-- All 32 bytes. -/
def leN (s : ByteArray) : Nat := leP (ls s) 32
def ofS (s : ByteArray) : N5 := ofN (leN s)
theorem lane (k D M N u v : Nat) (hD : D * 2 ^ k = 18446744073709551616) (hM : M = 2 ^ k) (hu : u < 18446744073709551616) (hN : N * M = 18446744073709551616) :
    bits .and .u64 (bits .or .u64 ((u : Int) / (D : Nat)) (IntKind.u64.wrap ((v : Int) * (M : Nat)))) 2251799813685247 = (((u / D + v % N * M) % 2251799813685248 : Nat) : Int) := by
  subst hM
  have hN2 : v % N * 2 ^ k = v * 2 ^ k % 18446744073709551616 := by rw [← hN, Nat.mul_mod_mul_right]
  have h1 : u / D < 2 ^ k := Nat.div_lt_of_lt_mul (by rw [hD]; exact hu)
  have hlt : v % N * 2 ^ k < 18446744073709551616 := by rw [hN2]; exact Nat.mod_lt _ (by decide)
  have hk2 : v % N * 2 ^ k + 2 ^ k ≤ 18446744073709551616 := by
    have hNp : 0 < N := Nat.pos_of_ne_zero fun h => by rw [h, Nat.zero_mul] at hN; cases hN
    have := Nat.mod_lt v hNp
    calc v % N * 2 ^ k + 2 ^ k = (v % N + 1) * 2 ^ k := by rw [Nat.succ_mul]
      _ ≤ N * 2 ^ k := Nat.mul_le_mul_right _ this
      _ = _ := hN
  rw [IntKind.wrap_u64, show ((v : Int) * ((2 ^ k : Nat) : Int)) = ((v * 2 ^ k : Nat) : Int) by rw [Int.natCast_mul], show ((v * 2 ^ k : Nat) : Int) % 18446744073709551616 = ((v * 2 ^ k % 18446744073709551616 : Nat) : Int) by rw [Int.natCast_emod]; rfl, ← hN2,
    show (u : Int) / ((D : Nat) : Int) = ((u / D : Nat) : Int) by rw [Int.natCast_ediv], or_words k (u / D) (v % N) h1 (by omega), and51 _ (by omega)]

theorem of_lanes (v : Nat) : bits .and .u64 ((wd v 0 : Nat) : Int) 2251799813685247 = ((ofN v).a : Int) ∧
    bits .and .u64 (bits .or .u64 (((wd v 0 : Nat) : Int) / 2251799813685248) (IntKind.u64.wrap (((wd v 1 : Nat) : Int) * 8192))) 2251799813685247 = ((ofN v).b : Int) ∧
    bits .and .u64 (bits .or .u64 (((wd v 1 : Nat) : Int) / 274877906944) (IntKind.u64.wrap (((wd v 2 : Nat) : Int) * 67108864))) 2251799813685247 = ((ofN v).c : Int) ∧
    bits .and .u64 (bits .or .u64 (((wd v 2 : Nat) : Int) / 33554432) (IntKind.u64.wrap (((wd v 3 : Nat) : Int) * 549755813888))) 2251799813685247 = ((ofN v).d : Int) ∧
    bits .and .u64 (((wd v 3 : Nat) : Int) / 4096) 2251799813685247 = ((ofN v).e : Int) := by
  obtain ⟨k0, k1, k2, k3, k4⟩ := ofN_words v
  have b0 : wd v 0 < 18446744073709551616 := Nat.mod_lt _ (by decide)
  have b1 : wd v 1 < 18446744073709551616 := Nat.mod_lt _ (by decide)
  have b2 : wd v 2 < 18446744073709551616 := Nat.mod_lt _ (by decide)
  have b3 : wd v 3 < 18446744073709551616 := Nat.mod_lt _ (by decide)
  generalize wd v 0 = w0 at *
  generalize wd v 1 = w1 at *
  generalize wd v 2 = w2 at *
  generalize wd v 3 = w3 at *
  generalize ofN v = V at *
  refine ⟨?_, ?_, ?_, ?_, ?_⟩
  · rw [and51 w0 b0, ← k0]
  · have := lane 13 2251799813685248 8192 2251799813685248 w0 w1 (by decide) (by decide) b0 (by decide)
    rw [show (w0 / 2251799813685248 + w1 % 2251799813685248 * 8192) % 2251799813685248 = V.b by omega] at this
    exact this
  · have := lane 26 274877906944 67108864 274877906944 w1 w2 (by decide) (by decide) b1 (by decide)
    rw [show (w1 / 274877906944 + w2 % 274877906944 * 67108864) % 2251799813685248 = V.c by omega] at this
    exact this
  · have := lane 39 33554432 549755813888 33554432 w2 w3 (by decide) (by decide) b2 (by decide)
    rw [show (w2 / 33554432 + w3 % 33554432 * 549755813888) % 2251799813685248 = V.d by omega] at this
    exact this
  · have := and51 (w3 / 4096) (by omega)
    rw [← k4, show ((w3 / 4096 : Nat) : Int) = (w3 : Int) / 4096 by omega] at this
    exact this

theorem results_row_tmp {P : Program} {fn : Func} {p q : Tmp} {ty : TypeId} (h : fn.results = #[.cell p ty, .tmp q]) (tmps : Array Value) (w : World) (g : Nat) (t : TypeId) (cs : Array Value) (fr : Nat × Nat) (d : TypeDesc)
    (hp : tmps.getD p undef = .pointer (some ⟨g, 0, none⟩)) (v : Value) (hv : tmps.getD q undef = v) (hg : w.heap[g]? = some (.cells cs t fr))
    (hu : P.underlying ty = some d) (hd : (match d with | .struct _ | .array _ _ => true | _ => false) = true) (hi : (P.info? ty).map (·.size) = some cs.size) :
    (results fn tmps).run P w = .ok (.tuple #[.agg cs, v]) w := by
  have hp' : tmps[p]?.getD undef = .pointer (some ⟨g, 0, none⟩) := by simpa using hp
  have hv' : tmps[q]?.getD undef = v := by simpa using hv
  simp [results, h, hp', hv', asAddr, run_loadVar_row w g t ty cs fr d hg hu hd hi]

set_option maxRecDepth 1000000 in
set_option maxHeartbeats 4000000 in
theorem feof_no (s : ByteArray) (w : World) (hs : s.size ≠ 32) : Calls Try.prog 48 #[.string s] w fun e w' => e = .returned (.tuple #[.agg (nvA n0), .bool false]) ∧ Below w.heap.size w w' := by
  have h1 : ¬ (s.size : Int) = 32 := by omega
  have h2 : ((s.size : Int) != 32) = true := by simp; omega
  have IV := Lib.hid (infoV n0)
  have OV := Lib.hid (one_nvA n0)
  have R0 := Lib.hid ((Rw.nil w).alloc #[.int .u64 0, .int .u64 0, .int .u64 0, .int .u64 0, .int .u64 0] 24)
  have hnv : (#[.int .u64 0, .int .u64 0, .int .u64 0, .int .u64 0, .int .u64 0] : Array Value) = nvA n0 := rfl
  rw [hnv] at R0
  have RR := Lib.hid (R0.out.row 0)
  have R7 := Lib.hid (R0.out.store 0 (nvA n0))
  clear hs
  go_enter Try.func48, Try.ntmps48
  go_wp2_with (with_reducible refine wpList_store_row rfl 24 (.tmp 2) (.tmp 9) rfl w.heap.size (nvA n0) rfl rfl 24 (nvA n0) RR.out IV.out rfl OV.out ?_)
  exact bodyPost_ret (results_row_tmp rfl _ _ w.heap.size 24 (nvA n0) (0, 0) _ rfl (.bool false) rfl (R7.out.row 0) Try.underlying24 rfl IV.out) rfl ⟨rfl, R7.out.bel⟩

set_option maxRecDepth 1000000 in
set_option maxHeartbeats 4000000 in
theorem feof_yes (s : ByteArray) (w : World) (hs : s.size = 32) : Calls Try.prog 48 #[.string s] w fun e w' => e = .returned (.tuple #[.agg (nvA (ofS s)), .bool true]) ∧ Below w.heap.size w w' := by
  have h1 : (s.size : Int) = 32 := by omega
  have h2 : ((s.size : Int) != 32) = false := by simp; omega
  have HS := Lib.hid hs
  have R0 := Lib.hid (show Rw w [(w.heap.size, #[.int .u64 0, .int .u64 0, .int .u64 0, .int .u64 0, .int .u64 0], 24), (w.heap.size + 1, wdRow (leP (ls s) 0), 59)] ((w.alloc (.cells #[.int .u64 0, .int .u64 0, .int .u64 0, .int .u64 0, .int .u64 0] 24 (0, 0))).alloc (.cells #[.int .u64 0, .int .u64 0, .int .u64 0, .int .u64 0] 59 (0, 0))) from by
    have := ((Rw.nil w).alloc #[.int .u64 0, .int .u64 0, .int .u64 0, .int .u64 0, .int .u64 0] 24).alloc #[.int .u64 0, .int .u64 0, .int .u64 0, .int .u64 0] 59
    rw [World.size_alloc] at this
    rw [show wdRow (leP (ls s) 0) = #[.int .u64 0, .int .u64 0, .int .u64 0, .int .u64 0] by simp [wdRow, wd, leP]]
    exact this)
  clear hs
  go_enter Try.func48, Try.ntmps48
  go_upto_region 4 with fail
  generalize (w.alloc (.cells #[.int .u64 0, .int .u64 0, .int .u64 0, .int .u64 0, .int .u64 0] 24 (0, 0))).alloc (.cells #[.int .u64 0, .int .u64 0, .int .u64 0, .int .u64 0] 59 (0, 0)) = W at R0 ⊢
  generalize w.heap.size + 1 = gw at *
  generalize w.heap.size = gR at R0 ⊢
  go_wp2_with fail
  go_loopw [12] (fun c wr => ∃ j : Nat, j ≤ 32 ∧ c = .int .i64 j ∧ Rw w [(gR, #[.int .u64 0, .int .u64 0, .int .u64 0, .int .u64 0, .int .u64 0], 24), (gw, wdRow (leP (ls s) j), 59)] wr) (fun c _ => 32 - (intOf c).toNat)
  case atStart => exact ⟨0, by omega, rfl, R0.out⟩
  case round =>
    obtain ⟨j, hj, rfl, hr⟩ := hrel
    have R6 := Lib.hid hr
    have HJ := Lib.hid hj
    clear hr R0 hj
    by_cases hlt : j < 32
    · have j1 : (j : Int) < 32 := by omega
      have j0 : (0 : Int) ≤ j := by omega
      have js : (j : Int) < s.size := by omega
      have HLT := Lib.hid hlt
      have hjs : j < s.size := by omega
      have hgs := ls_get s j hjs
      have hb := UInt8.toNat_lt ((ls s).getD j 0)
      have hW := wd_at (ls s) j
      have PUT := Lib.hid (show ∀ kk, Rw w [(gR, #[.int .u64 0, .int .u64 0, .int .u64 0, .int .u64 0, .int .u64 0], 24), (gw, wdRow (leP (ls s) (j + 1)), 59)] ((wr.drewN kk).setCell ⟨gw, j / 8, none⟩ (.int .u64 ((wd (leP (ls s) (j + 1)) (j / 8) : Nat) : Int))) from fun kk => by
        have := (R6.out.drewN kk).put 1 (j / 8) (.int .u64 ((wd (leP (ls s) (j + 1)) (j / 8) : Nat) : Int))
        rw [wdRow_step _ _ hlt] at this
        exact this)
      have cw := R6.out.cell 1 (j / 8) (wdRow_get (leP (ls s) j) (j / 8) (by omega))
      have fw := R6.out.free 1 (j / 8)
      obtain ⟨q, hq⟩ : ∃ q, j / 8 = q := ⟨_, rfl⟩
      obtain ⟨r, hr⟩ : ∃ r, j % 8 = r := ⟨_, rfl⟩
      rw [hq] at hW PUT cw fw
      rw [hr] at hW
      have q4 : q < 4 := by omega
      have r8 : r = 0 ∨ r = 1 ∨ r = 2 ∨ r = 3 ∨ r = 4 ∨ r = 5 ∨ r = 6 ∨ r = 7 := by omega
      have qj : (j : Int) / 8 = (q : Int) := by omega
      have rj : (j : Int) % 8 = (r : Int) := by omega
      have qn : (0 : Int) ≤ q := by omega
      have qi : (q : Int) < 4 := by omega
      generalize wd (leP (ls s) (j + 1)) q = W1 at hW PUT
      generalize wd (leP (ls s) j) q = W0 at hW cw
      generalize (ls s).getD j 0 = b0 at hW hgs hb
      generalize hB : b0.toNat = B0 at hW hb
      obtain ⟨hW1, hW⟩ := hW
      clear hlt hq hr q4
      rcases r8 with rfl | rfl | rfl | rfl | rfl | rfl | rfl | rfl
      · have rk : (j : Int) % 8 = 0 := rj
        have vb := or_words 0 W0 B0 hW (by omega)
        rw [show W0 + B0 * 2 ^ 0 = W1 by omega, show ((B0 * 2 ^ 0 : Nat) : Int) = (B0 : Int) by omega] at vb
        have vm : (B0 : Int) * 1 < 18446744073709551616 := by omega
        clear rj hW hW1
        go_wp2_with fail
        refine wp_region_draws_tail 14 (by kernel_rfl) (by kernel_rfl) ?_
        simp only [List.take_succ_cons, List.take_zero]
        repeat (go_big_quiet_step (fail))
        refine wpQuiet_nil ?_
        rintro _ ⟨kk, rfl⟩
        have PK := Lib.hid (PUT.out kk)
        simp only [List.drop_succ_cons, List.drop_zero]
        go_wp2_with fail
        go_roundw
        case rel => exact ⟨j + 1, HLT.out, by go_num, PK.out⟩
        case measure => simp [intOf]; omega
      · have rk : (j : Int) % 8 = 1 := rj
        have vb := or_words 8 W0 B0 hW (by omega)
        rw [show W0 + B0 * 2 ^ 8 = W1 by omega, show ((B0 * 2 ^ 8 : Nat) : Int) = (B0 : Int) * 256 by omega] at vb
        have vm : (B0 : Int) * 256 < 18446744073709551616 := by omega
        clear rj hW hW1
        go_wp2_with fail
        refine wp_region_draws_tail 14 (by kernel_rfl) (by kernel_rfl) ?_
        simp only [List.take_succ_cons, List.take_zero]
        repeat (go_big_quiet_step (fail))
        refine wpQuiet_nil ?_
        rintro _ ⟨kk, rfl⟩
        have PK := Lib.hid (PUT.out kk)
        simp only [List.drop_succ_cons, List.drop_zero]
        go_wp2_with fail
        go_roundw
        case rel => exact ⟨j + 1, HLT.out, by go_num, PK.out⟩
        case measure => simp [intOf]; omega
      · have rk : (j : Int) % 8 = 2 := rj
        have vb := or_words 16 W0 B0 hW (by omega)
        rw [show W0 + B0 * 2 ^ 16 = W1 by omega, show ((B0 * 2 ^ 16 : Nat) : Int) = (B0 : Int) * 65536 by omega] at vb
        have vm : (B0 : Int) * 65536 < 18446744073709551616 := by omega
        clear rj hW hW1
        go_wp2_with fail
        refine wp_region_draws_tail 14 (by kernel_rfl) (by kernel_rfl) ?_
        simp only [List.take_succ_cons, List.take_zero]
        repeat (go_big_quiet_step (fail))
        refine wpQuiet_nil ?_
        rintro _ ⟨kk, rfl⟩
        have PK := Lib.hid (PUT.out kk)
        simp only [List.drop_succ_cons, List.drop_zero]
        go_wp2_with fail
        go_roundw
        case rel => exact ⟨j + 1, HLT.out, by go_num, PK.out⟩
        case measure => simp [intOf]; omega
      · have rk : (j : Int) % 8 = 3 := rj
        have vb := or_words 24 W0 B0 hW (by omega)
        rw [show W0 + B0 * 2 ^ 24 = W1 by omega, show ((B0 * 2 ^ 24 : Nat) : Int) = (B0 : Int) * 16777216 by omega] at vb
        have vm : (B0 : Int) * 16777216 < 18446744073709551616 := by omega
        clear rj hW hW1
        go_wp2_with fail
        refine wp_region_draws_tail 14 (by kernel_rfl) (by kernel_rfl) ?_
        simp only [List.take_succ_cons, List.take_zero]
        repeat (go_big_quiet_step (fail))
        refine wpQuiet_nil ?_
        rintro _ ⟨kk, rfl⟩
        have PK := Lib.hid (PUT.out kk)
        simp only [List.drop_succ_cons, List.drop_zero]
        go_wp2_with fail
        go_roundw
        case rel => exact ⟨j + 1, HLT.out, by go_num, PK.out⟩
        case measure => simp [intOf]; omega
      · have rk : (j : Int) % 8 = 4 := rj
        have vb := or_words 32 W0 B0 hW (by omega)
        rw [show W0 + B0 * 2 ^ 32 = W1 by omega, show ((B0 * 2 ^ 32 : Nat) : Int) = (B0 : Int) * 4294967296 by omega] at vb
        have vm : (B0 : Int) * 4294967296 < 18446744073709551616 := by omega
        clear rj hW hW1
        go_wp2_with fail
        refine wp_region_draws_tail 14 (by kernel_rfl) (by kernel_rfl) ?_
        simp only [List.take_succ_cons, List.take_zero]
        repeat (go_big_quiet_step (fail))
        refine wpQuiet_nil ?_
        rintro _ ⟨kk, rfl⟩
        have PK := Lib.hid (PUT.out kk)
        simp only [List.drop_succ_cons, List.drop_zero]
        go_wp2_with fail
        go_roundw
        case rel => exact ⟨j + 1, HLT.out, by go_num, PK.out⟩
        case measure => simp [intOf]; omega
      · have rk : (j : Int) % 8 = 5 := rj
        have vb := or_words 40 W0 B0 hW (by omega)
        rw [show W0 + B0 * 2 ^ 40 = W1 by omega, show ((B0 * 2 ^ 40 : Nat) : Int) = (B0 : Int) * 1099511627776 by omega] at vb
        have vm : (B0 : Int) * 1099511627776 < 18446744073709551616 := by omega
        clear rj hW hW1
        go_wp2_with fail
        refine wp_region_draws_tail 14 (by kernel_rfl) (by kernel_rfl) ?_
        simp only [List.take_succ_cons, List.take_zero]
        repeat (go_big_quiet_step (fail))
        refine wpQuiet_nil ?_
        rintro _ ⟨kk, rfl⟩
        have PK := Lib.hid (PUT.out kk)
        simp only [List.drop_succ_cons, List.drop_zero]
        go_wp2_with fail
        go_roundw
        case rel => exact ⟨j + 1, HLT.out, by go_num, PK.out⟩
        case measure => simp [intOf]; omega
      · have rk : (j : Int) % 8 = 6 := rj
        have vb := or_words 48 W0 B0 hW (by omega)
        rw [show W0 + B0 * 2 ^ 48 = W1 by omega, show ((B0 * 2 ^ 48 : Nat) : Int) = (B0 : Int) * 281474976710656 by omega] at vb
        have vm : (B0 : Int) * 281474976710656 < 18446744073709551616 := by omega
        clear rj hW hW1
        go_wp2_with fail
        refine wp_region_draws_tail 14 (by kernel_rfl) (by kernel_rfl) ?_
        simp only [List.take_succ_cons, List.take_zero]
        repeat (go_big_quiet_step (fail))
        refine wpQuiet_nil ?_
        rintro _ ⟨kk, rfl⟩
        have PK := Lib.hid (PUT.out kk)
        simp only [List.drop_succ_cons, List.drop_zero]
        go_wp2_with fail
        go_roundw
        case rel => exact ⟨j + 1, HLT.out, by go_num, PK.out⟩
        case measure => simp [intOf]; omega
      · have rk : (j : Int) % 8 = 7 := rj
        have vb := or_words 56 W0 B0 hW (by omega)
        rw [show W0 + B0 * 2 ^ 56 = W1 by omega, show ((B0 * 2 ^ 56 : Nat) : Int) = (B0 : Int) * 72057594037927936 by omega] at vb
        have vm : (B0 : Int) * 72057594037927936 < 18446744073709551616 := by omega
        clear rj hW hW1
        go_wp2_with fail
        refine wp_region_draws_tail 14 (by kernel_rfl) (by kernel_rfl) ?_
        simp only [List.take_succ_cons, List.take_zero]
        repeat (go_big_quiet_step (fail))
        refine wpQuiet_nil ?_
        rintro _ ⟨kk, rfl⟩
        have PK := Lib.hid (PUT.out kk)
        simp only [List.drop_succ_cons, List.drop_zero]
        go_wp2_with fail
        go_roundw
        case rel => exact ⟨j + 1, HLT.out, by go_num, PK.out⟩
        case measure => simp [intOf]; omega
    · have j1 : ¬ (j : Int) < 32 := by omega
      have hj32 : j = 32 := by have := HJ.out; omega
      clear hlt
      obtain ⟨v, hv⟩ : ∃ v, leP (ls s) j = v := ⟨_, rfl⟩
      have R8 := Lib.hid (show Rw w [(gR, #[.int .u64 0, .int .u64 0, .int .u64 0, .int .u64 0, .int .u64 0], 24), (gw, wdRow v, 59)] wr from by rw [← hv]; exact R6.out)
      have HV := Lib.hid (show ofS s = ofN v from by rw [← hv, hj32]; rfl)
      clear R6 hv
      have c0 := R8.out.cell 1 0 (wdRow_get v 0 (by decide))
      have c1 := R8.out.cell 1 1 (wdRow_get v 1 (by decide))
      have c2 := R8.out.cell 1 2 (wdRow_get v 2 (by decide))
      have c3 := R8.out.cell 1 3 (wdRow_get v 3 (by decide))
      obtain ⟨E0, E1, E2, E3, E4⟩ := of_lanes v
      have IV := Lib.hid (infoV (ofN v))
      have OV := Lib.hid (one_nvA (ofN v))
      have LV := Lib.hid (show (#[.int .u64 0, .int .u64 0, .int .u64 0, .int .u64 0, .int .u64 0] : Array Value).size = (nvA (ofN v)).size from rfl)
      generalize wd v 0 = w0 at *
      generalize wd v 1 = w1 at *
      generalize wd v 2 = w2 at *
      generalize wd v 3 = w3 at *
      generalize ofN v = V at *
      have hnv : (#[.int .u64 (V.a : Int), .int .u64 (V.b : Int), .int .u64 (V.c : Int), .int .u64 (V.d : Int), .int .u64 (V.e : Int)] : Array Value) = nvA V := rfl
      have RR := Lib.hid (R8.out.row 0)
      have R7 := Lib.hid (R8.out.store 0 (nvA V))
      go_wp2_with (with_reducible refine wpList_store_row rfl 24 (.tmp 2) (.tmp 61) rfl gR (nvA V) rfl rfl 24 #[.int .u64 0, .int .u64 0, .int .u64 0, .int .u64 0, .int .u64 0] RR.out IV.out LV.out OV.out ?_)
      exact bodyPost_ret (results_row_tmp rfl _ _ gR 24 (nvA V) (0, 0) _ rfl (.bool true) rfl (R7.out.row 0) Try.underlying24 rfl IV.out) rfl ⟨by rw [HV.out], R7.out.bel⟩
end Go.Proofs.Ythlmphloalbhnaa

/-
  mailsackref03.Of: the walk.
-/
namespace Go.Proofs.Ythlmphloalbhnaa
open Go.RowKit MS

theorem leP_byte (l : List UInt8) : ∀ n i, i < n → leP l n / 2 ^ (8 * i) % 256 = (l.getD i 0).toNat := by
  intro n
  induction n with
  | zero => intro i h; omega
  | succ n ih =>
    intro i h
    rw [leP]
    by_cases e : i = n
    · subst e
      have h1 := leP_lt l i
      have h2 := UInt8.toNat_lt (l.getD i 0)
      rw [Nat.mul_comm, Nat.add_mul_div_left _ _ (Nat.pow_pos (by decide)), Nat.div_eq_of_lt h1, Nat.zero_add, Nat.mod_eq_of_lt (by omega)]
    · obtain ⟨d, hd⟩ : ∃ d, 8 * n = 8 * i + (8 + d) := ⟨8 * n - 8 * i - 8, by omega⟩
      rw [hd, Nat.pow_add, Nat.pow_add 2 8 d, Nat.mul_comm ((l.getD n 0).toNat), Nat.mul_assoc, Nat.add_mul_div_left _ _ (Nat.pow_pos (by decide)), show (2 : Nat) ^ 8 = 256 by decide, Nat.mul_assoc, Nat.add_mul_mod_self_left]
      exact ih i (by omega)
theorem leP_digit (l : List UInt8) (j : Nat) (h : j < 16) : leP l 32 / 65536 ^ j % 65536 = (l.getD (2 * j) 0).toNat + 256 * (l.getD (2 * j + 1) 0).toNat := by
  have h0 := leP_byte l 32 (2 * j) (by omega)
  have h1 := leP_byte l 32 (2 * j + 1) (by omega)
  have p0 : (2 : Nat) ^ (8 * (2 * j)) = 65536 ^ j := by rw [show 8 * (2 * j) = 16 * j by omega, Nat.pow_mul]
  have p1 : (2 : Nat) ^ (8 * (2 * j + 1)) = 65536 ^ j * 256 := by rw [show 8 * (2 * j + 1) = 16 * j + 8 by omega, Nat.pow_add, Nat.pow_mul]
  rw [p0] at h0
  rw [p1, ← Nat.div_div_eq_div_mul] at h1
  rw [← h0, ← h1]
  generalize leP l 32 / 65536 ^ j = x
  omega
theorem leP_step (l : List UInt8) (j : Nat) (h : j < 16) : dvs (dgn 65536 j (leP l 32)) ++ [.int .i64 (((l.getD (2 * j) 0).toNat : Int) + 256 * ((l.getD (2 * j + 1) 0).toNat : Int))] = dvs (dgn 65536 (j + 1) (leP l 32)) := by
  rw [dg_succ, dvs_app, leP_digit l j h]
  congr 3
theorem lo_set (u : Nat) : (dgn 65536 16 u).set 15 (u / 65536 ^ 15 % 65536 % 32768) = dgn 65536 16 (lo255 u) := by
  apply List.ext_getElem?
  intro i
  by_cases hi : i < 16
  · rw [List.getElem?_set, length_dgn, dg_get _ _ _ _ hi]
    by_cases e : 15 = i
    · subst e
      rw [if_pos rfl, if_pos (by decide), ← lo_dig15, dg_get _ _ _ _ hi]
    · rw [if_neg e, dg_get _ _ _ _ hi, lo_dig u i (by omega)]
  · rw [List.getElem?_eq_none (by rw [List.length_set, length_dgn]; omega), List.getElem?_eq_none (by rw [length_dgn]; omega)]
/-- The element that 32 bytes are, the highest bit left off. -/
def uF (s : ByteArray) : MSE.F := toF (lo255 (leN s))

set_option maxRecDepth 1000000 in
set_option maxHeartbeats 2000000 in
theorem rfof_any (s : ByteArray) (w : World) (hs : s.size = 32) :
    Calls Try.prog 51 #[.string s] w fun e w' => Below w.heap.size w w' ∧ ∃ r, e = .returned r ∧ DF w' r (uF s) := by
  obtain ⟨i0, hi, hz0, hz1, hz2⟩ : ∃ i, Try.prog.info? 3 = some i ∧ i.zero = some (.int .i64 0) ∧ i.size = 1 ∧ i.bytes = 8 := ⟨_, rfl, rfl, rfl, rfl⟩
  have h1 : (s.size : Int) = 32 := by omega
  obtain ⟨U, hU⟩ : ∃ U, leP (ls s) 32 = U := ⟨_, rfl⟩
  have hstep := fun j h => leP_step (ls s) j h
  rw [hU] at hstep
  have HST := Lib.hid hstep
  have HUF := Lib.hid (show (uF s).val = lo255 U % Q' from by rw [← hU]; rfl)
  have HLT := Lib.hid (show U < 65536 ^ 16 from by have := leP_lt (ls s) 32; rw [hU] at this; exact this)
  generalize uF s = R at HUF ⊢
  have hown0 : w.ownsRow w.heap.size 3 1 (.slice none 0 0) 0 (dvs (dgn 65536 0 U)) := World.ownsRow_nil _ _ _ _
  clear hU hstep
  go_enter Try.func51, Try.ntmps51
  go_wp2_with fail
  go_loopw [3, 4] (fun v i wr => ∃ j : Nat, j ≤ 16 ∧ i = .int .i64 (2 * (j : Int)) ∧ wr.ownsRow w.heap.size 3 1 v j (dvs (dgn 65536 j U)) ∧ Below w.heap.size w wr) (fun _ i _ => 32 - (intOf i).toNat)
  case atStart => exact ⟨0, by omega, rfl, hown0, Below.refl _ _⟩
  case round =>
    obtain ⟨j, hj, rfl, ho, hb⟩ := hrel
    have HO := Lib.hid ho
    have HB := Lib.hid hb
    have HJ := Lib.hid hj
    clear ho hb hj hown0
    have hs0 : _ ≤ wr.heap.size := HB.out.size
    by_cases hlt : j < 16
    · have j1 : 2 * (j : Int) < 32 := by omega
      have j0 : (0 : Int) ≤ 2 * (j : Int) := by omega
      have j2 : 2 * (j : Int) + 1 < s.size := by omega
      have j3 : 2 * (j : Int) < s.size := by omega
      have j4 : (0 : Int) ≤ 2 * (j : Int) + 1 := by omega
      have e1 : (2 * (j : Int)).toNat = 2 * j := by omega
      have e2 : (2 * (j : Int) + 1).toNat = 2 * j + 1 := by omega
      have q0 : 2 * j < s.size := by omega
      have q1 : 2 * j + 1 < s.size := by omega
      have g0 := ls_get s (2 * j) q0
      have g1 := ls_get s (2 * j + 1) q1
      have b0 := UInt8.toNat_lt ((ls s).getD (2 * j) 0)
      have b1 := UInt8.toNat_lt ((ls s).getD (2 * j + 1) 0)
      have hst := HST.out j hlt
      have HL := Lib.hid hlt
      generalize (ls s).getD (2 * j) 0 = x0 at *
      generalize (ls s).getD (2 * j + 1) 0 = x1 at *
      have HS2 := Lib.hid hst
      have m0 : (x0.toNat : Int) < 256 := by omega
      have m1 : (x1.toNat : Int) < 256 := by omega
      have HML := Lib.hid (show j + 1 ≤ maxLen by unfold maxLen; omega)
      have HMB := Lib.hid (show (j + 1) * 8 ≤ 140737488355328 by omega)
      clear hlt hst
      go_wp2_with fail
      refine wp_region_any (by kernel_rfl) ?_
      change wpAny _ _ _ _ _ _ _ (World.drew _)
      refine wpAny_take_at (i := 0) (d := 9) (v := u3) rfl (by kernel_rfl) (by kernel_rfl) (by kernel_rfl) (fun _ _ _ h => h) rfl (Or.inl ⟨by rfl, by intro w; go_simp⟩) ?_
      simp only [Act.put, List.setIfInBounds_toArray, List.set_cons_zero, List.set_cons_succ]
      refine wpAny_quiet_mid (fun w' => ∃ k, w' = wr.drewN k) #[true, true, true, true, true, true, true, true, true, true, true, true, false, false, false] 1 11 3 (by kernel_rfl) (by kernel_rfl) (by kernel_rfl) (by kernel_rfl) rfl ⟨1, rfl⟩ ?_
      simp only [List.take_succ_cons, List.take_zero, List.drop_succ_cons, List.drop_zero]
      repeat (go_big_quiet_step (fail))
      refine wpQuiet_nil ?_
      intro _ hw'
      obtain ⟨kk, hw''⟩ := hw'
      subst hw''
      have HO2 := Lib.hid (show (wr.drewN kk).ownsRow w.heap.size 3 1 u3 j (dvs (dgn 65536 j U)) from HO.out)
      have HB2 := Lib.hid (below_drewN HB.out kk)
      have hs1 : _ ≤ (wr.drewN kk).heap.size := HB2.out.size
      generalize wr.drewN kk = wz at HO2 HB2 hs1 ⊢
      have HAL := Lib.hid (HO2.out.alloc (.cells #[.int .i64 ((x0.toNat : Int) + 256 * (x1.toNat : Int))] 3 (0, 0)))
      refine wpAny_tail 12 3 (by kernel_rfl) rfl ?_
      simp only [List.drop_succ_cons, List.drop_zero]
      clear HO HB hs0 g0 g1
      go_wp2_with (at_builtin; refine wpList_append_own _ rfl (.tmp 9) (.tmp 21) 26 rfl _ 3 i0 (.int .i64 0) 1 8 Try.underlying26 hi hz0 hz1 hz2 rfl (by decide) _ _ _ rfl HAL.out ⟨wz.heap.size, 0, none⟩ 1 1 [.int .i64 ((x0.toNat : Int) + 256 * (x1.toNat : Int))] rfl rfl (one_cell wz _ _) (one_one _ rfl) HML.out HMB.out (le_alloc hs1 _) ?_)
      intro v1 w1 h1 h2 h3
      have HB1 := Lib.hid (below_app HB2.out _ _ _ _ _ HO2.out h2)
      rw [HS2.out] at h1
      have HO1 := Lib.hid h1
      clear h1 h2 h3 hs1
      go_wp2_with fail
      go_roundw
      case rel => exact ⟨j + 1, HL.out, by go_num, HO1.out, HB1.out⟩
      case measure => simp [intOf]; omega
    · have j1 : ¬ 2 * (j : Int) < 32 := by omega
      have hj16 : j = 16 := by have := HJ.out; omega
      subst hj16
      clear hlt
      obtain ⟨g, cap, rfl, hge, -⟩ := HO.out.form (by decide)
      have c15 : wr.cell? ⟨g, 15, none⟩ = some (.int .i64 ((U / 65536 ^ 15 % 65536 : Nat) : Int)) := by
        rw [HO.out.cellAt 15 (by decide), dvs, List.getElem?_map, dg_get _ _ _ _ (by decide)]
        rfl
      have f15 := HO.out.frozenAt 15
      have HP := Lib.hid (HO.out.stored 15 (.int .i64 ((U / 65536 ^ 15 % 65536 % 32768 : Nat) : Int))).1
      have HSET := Lib.hid (lo_set U)
      have HBS := Lib.hid (HB.out.setCell (p := ⟨g, 15, none⟩) hge (.int .i64 ((U / 65536 ^ 15 % 65536 % 32768 : Nat) : Int)))
      obtain ⟨D, hD⟩ : ∃ D, U / 65536 ^ 15 % 65536 = D := ⟨_, rfl⟩
      rw [hD] at c15 HP HSET HBS
      have d0 : (0 : Int) ≤ (D : Int) := by omega
      have em : ((D % 32768 : Nat) : Int) = (D : Int) % 32768 := by omega
      rw [em] at HP HBS
      have hg : g < wr.heap.size := by
        have := (own_cap HO.out).2.2.2
        exact this
      have DX := Lib.hid (show DS (wr.setCell ⟨g, 15, none⟩ (.int .i64 ((D : Int) % 32768))) w.heap.size (.slice (some ⟨g, 0, none⟩) 16 cap) 16 (lo255 U) from ⟨by
        have := HP.out
        rwa [show (dvs (dgn 65536 16 U)).set 15 (.int .i64 ((D : Int) % 32768)) = dvs (dgn 65536 16 (lo255 U)) by rw [← HSET.out, ← em]; simp [dvs, List.map_set]] at this, lo_lt U, by decide, by decide⟩)
      clear hD hg
      go_wp2_with fail
      refine (rreduce_any _ _ _ _ _ DX.out (by decide)).mono ?_
      rintro e w2 ⟨hb2, r2, rfl, hd2⟩
      have B2 := Lib.hid (HBS.out.trans (hb2.mono HBS.out.size))
      have D2 := Lib.hid (show DF w2 r2 R from by unfold DF; rw [HUF.out]; exact hd2)
      clear hb2 hd2
      go_wp2_with fail
      go_ret
      exact ⟨B2.out, _, rfl, D2.out⟩
end Go.Proofs.Ythlmphloalbhnaa

/-
  mailsackref04.Point: the walk.
-/
namespace Go.Proofs.Ythlmphloalbhnaa
open Go.RowKit MS

/-- Bit i of a text. -/
def kbit (k : ByteArray) (i : Nat) : Bool := decide (((ls k).getD (i / 8) 0).toNat / 2 ^ (i % 8) % 2 = 1)
/-- The d bits from 254 down. -/
def bts (f : Nat → Bool) : Nat → List Bool
  | 0 => []
  | d + 1 => bts f d ++ [f (254 - d)]
/-- X25519 of a scalar and a part u, 32 bytes each. -/
def xlB (s u : ByteArray) : MSE.F := MSE.xlF (uF u) (bts (kbit (clampB s)) 255)
def xB (s u : ByteArray) : ByteArray := bs (le32 (xlB s u).val)
theorem lad_zero (u : MSE.F) (f : Nat → Bool) : MSE.ladF u (bts f 0) = ((1, 0), (u, 1)) := rfl
theorem lad_step (u : MSE.F) (f : Nat → Bool) (d : Nat) : MSE.ladF u (bts f (d + 1)) = MSE.stepF u (MSE.ladF u (bts f d)) (f (254 - d)) := by
  unfold MSE.ladF
  rw [bts, List.foldl_append]
  rfl
theorem step_one (u : MSE.F) (P : (MSE.F × MSE.F) × (MSE.F × MSE.F)) : MSE.stepF u P true = (MSE.addF u P.1 P.2, MSE.dblF P.2) := rfl
theorem step_nil (u : MSE.F) (P : (MSE.F × MSE.F) × (MSE.F × MSE.F)) : MSE.stepF u P false = (MSE.dblF P.1, MSE.addF u P.1 P.2) := rfl
theorem inv_val (x : MSE.F) : (MSE.inv x).val = x.val ^ E21 % Q' := by
  unfold MSE.inv
  rw [MSE.fp_val]
  rfl
theorem rpowF (x : MSE.F) (va : Value) (w : World) (ha : DF w va x) :
    Calls Try.prog 29 #[va] w fun e w' => Below w.heap.size w w' ∧ ∃ r, e = .returned r ∧ DF w' r (MSE.inv x) := by
  refine (rfpower_any x.val va 0 w ha x.isLt).mono fun _ _ h => ?_
  obtain ⟨h1, r, h2, h3⟩ := h
  refine ⟨h1, r, h2, ?_⟩
  show DS _ _ _ _ (MSE.inv x).val
  rw [inv_val]
  exact h3
/-- What the loop keeps. -/
structure PSt (x : MSE.F) (f : Nat → Bool) (d : Nat) (vx a b c e : Value) (w0 w : World) : Prop where
  u : DF w vx x
  p1 : DF w a (MSE.ladF x (bts f d)).1.1
  p2 : DF w b (MSE.ladF x (bts f d)).1.2
  q1 : DF w c (MSE.ladF x (bts f d)).2.1
  q2 : DF w e (MSE.ladF x (bts f d)).2.2
  bel : Below w0.heap.size w0 w

set_option maxRecDepth 1000000 in
set_option maxHeartbeats 4000000 in
theorem rpoint_any (s u : ByteArray) (w : World) (hs : s.size = 32) (hu : u.size = 32) :
    Calls Try.prog 35 #[.string s, .string u] w fun e w' => e = .returned (.string (xB s u)) ∧ Below w.heap.size w w' := by
  have C := Lib.hid (fun w => rclamp_any s w hs)
  have O := Lib.hid (fun w => rfof_any u w hu)
  have HX := Lib.hid (show xB s u = bs (le32 (MSE.outF (MSE.ladF (uF u) (bts (kbit (clampB s)) 255)).1).val) from rfl)
  have hk : (clampB s).size = 32 := by rw [clampB, size_bs, length_clampL, length_ls]; exact hs
  generalize clampB s = k at *
  generalize uF u = x at *
  generalize xB s u = R at *
  have k1 : (k.size : Int) = 32 := by omega
  have HF := Lib.hid (show ∀ i, kbit k i = decide (((ls k).getD (i / 8) 0).toNat / 2 ^ (i % 8) % 2 = 1) from fun _ => rfl)
  generalize kbit k = f at HX HF
  have HK := Lib.hid hk
  have S1 := Lib.hid (fun w => rsmallF 1 (by decide) w)
  have S0 := Lib.hid (fun w => rsmallF 0 (by decide) w)
  clear hs hu hk
  go_enter Try.func35, Try.ntmps35
  go_wp2_with fail
  refine (C.out _).mono ?_
  rintro e w1 ⟨rfl, hb1⟩
  have B1 := Lib.hid hb1
  clear hb1
  go_wp2_with fail
  refine (O.out _).mono ?_
  rintro e w2 ⟨hb2, vx, rfl, hd2⟩
  have B2 := Lib.hid (B1.out.trans (hb2.mono B1.out.size))
  have DX := Lib.hid hd2
  clear hb2 B1 hd2
  go_wp2_with fail
  refine (S1.out _).mono ?_
  rintro e w3 ⟨hb3, va, rfl, hd3⟩
  have B3 := Lib.hid (B2.out.trans (hb3.mono B2.out.size))
  have DX3 := Lib.hid (DX.out.on hb3)
  have DA := Lib.hid hd3
  clear hb3 hd3 B2 DX
  go_wp2_with fail
  refine (S0.out _).mono ?_
  rintro e w4 ⟨hb4, vb, rfl, hd4⟩
  have B4 := Lib.hid (B3.out.trans (hb4.mono B3.out.size))
  have DX4 := Lib.hid (DX3.out.on hb4)
  have DA4 := Lib.hid (DA.out.on hb4)
  have DB := Lib.hid hd4
  clear hb4 hd4 B3 DX3 DA
  go_wp2_with fail
  refine (S1.out _).mono ?_
  rintro e w5 ⟨hb5, vc, rfl, hd5⟩
  have P0 := Lib.hid (show PSt x f 0 vx va vb vx vc w w5 from ⟨DX4.out.on hb5, DA4.out.on hb5, DB.out.on hb5, DX4.out.on hb5, hd5, B4.out.trans (hb5.mono B4.out.size)⟩)
  clear hb5 hd5 B4 DX4 DA4 DB
  go_wp2_with fail
  go_loopw [7, 8, 9, 10, 11] (fun a b c e i wr => ∃ d : Nat, d ≤ 255 ∧ i = .int .i64 (254 - (d : Int)) ∧ PSt x f d vx a b c e w wr) (fun _ _ _ _ i _ => (intOf i + 1).toNat)
  case atStart => exact ⟨0, by omega, rfl, P0.out⟩
  case round =>
    obtain ⟨d, hd, rfl, hp⟩ := hrel
    have P1 := Lib.hid hp
    have HD := Lib.hid hd
    clear hp hd P0
    by_cases hlt : d < 255
    · obtain ⟨i, hi⟩ : ∃ i : Nat, i = 254 - d := ⟨_, rfl⟩
      have ei : 254 - (d : Int) = (i : Int) := by omega
      have i0 : (i : Int) ≥ 0 := by omega
      have i1 : (i : Int) ≤ 254 := by omega
      have i2 : (0 : Int) ≤ (i : Int) / 8 := by omega
      have i3 : (i : Int) / 8 < k.size := by omega
      have e8 : ((i : Int) / 8).toNat = i / 8 := by omega
      have hik : i / 8 < k.size := by omega
      have gk := ls_get k (i / 8) hik
      rw [ei]
      have HI := Lib.hid (show i = 254 - d ∧ d < 255 from ⟨hi, hlt⟩)
      have HB := Lib.hid (HF.out i)
      obtain ⟨r, hr⟩ : ∃ r : Nat, r = i % 8 := ⟨_, rfl⟩
      have er : (i : Int) % 8 = (r : Int) := by omega
      have r7 : (r : Int) < 8 := by omega
      have r0 : (0 : Int) ≤ (r : Int) := by omega
      generalize (ls k).getD (i / 8) 0 = b0 at *
      rw [← hr] at HB
      have hb0 := UInt8.toNat_lt b0
      generalize hB : b0.toNat = B at *
      have HER := Lib.hid er
      have HR7 := Lib.hid r7
      clear hi hlt ei er r7 r0
      go_wp2_with fail
      obtain ⟨wo, rfl⟩ : ∃ wo : World, wo = wr := ⟨_, rfl⟩
      go_loopw [12, 13] (fun b n wr => ∃ m y : Nat, m ≤ r ∧ n = .int .i64 m ∧ b = .int .i64 y ∧ y = B / 2 ^ m ∧ wr = wo) (fun _ n _ => 8 - (intOf n).toNat)
      case atStart => exact ⟨0, B, Nat.zero_le _, rfl, rfl, by simp, rfl⟩
      case round =>
        obtain ⟨m, y, hm, rfl, rfl, hy, rfl⟩ := hrel
        have HM := Lib.hid hm
        have HY := Lib.hid hy
        have y0 : (0 : Int) ≤ (y : Int) := by omega
        have y1 : (y : Int) < 256 := by
          have : B / 2 ^ m ≤ B := Nat.div_le_self _ _
          omega
        clear hm hy
        by_cases hmr : m < r
        · have m1 : (m : Int) < (i : Int) % 8 := by have := HER.out; omega
          have m0 : (0 : Int) ≤ m := by omega
          have HMR := Lib.hid hmr
          have ey : ((y / 2 : Nat) : Int) = (y : Int) / 2 := by omega
          have HE := Lib.hid (show y / 2 = B / 2 ^ (m + 1) by rw [HY.out, Nat.div_div_eq_div_mul, Nat.pow_succ])
          have EY := Lib.hid ey
          clear hmr ey
          go_wp2_with fail
          go_roundw
          case rel => exact ⟨m + 1, y / 2, HMR.out, by go_num, by rw [EY.out], HE.out, trivial⟩
          case measure => simp [intOf]; have := HMR.out; have := HR7.out; omega
        · have m1 : ¬ (m : Int) < (i : Int) % 8 := by have := HER.out; omega
          have hmr2 : m = r := by have := HM.out; omega
          subst hmr2
          clear hmr
          have hbit := HB.out
          rw [← HY.out] at hbit
          have HBIT := Lib.hid hbit
          clear hbit
          go_wp2_with fail
          refine (rboth_any _ _ _ _ _ _ _ _ _ _ _ P1.out.p1 P1.out.p2 P1.out.q1 P1.out.q2 P1.out.u).mono ?_
          rintro e w6 ⟨hb6, t1, t2, rfl, hd61, hd62⟩
          have B6 := Lib.hid (P1.out.bel.trans (hb6.mono P1.out.bel.size))
          have U6 := Lib.hid (P1.out.u.on hb6)
          have A1 := Lib.hid (P1.out.p1.on hb6)
          have A2 := Lib.hid (P1.out.p2.on hb6)
          have A3 := Lib.hid (P1.out.q1.on hb6)
          have A4 := Lib.hid (P1.out.q2.on hb6)
          have A5 := Lib.hid hd61
          have A6 := Lib.hid hd62
          clear hb6 hd61 hd62
          have HSTEP := Lib.hid (lad_step x f d)
          by_cases hb : y % 2 = 1
          · have t1' : ((y : Int) % 2 == 1) = true := by simp; omega
            have HT := Lib.hid (show f i = true from by rw [HBIT.out]; exact decide_eq_true hb)
            clear hb
            go_wp2_with fail
            refine (rtwice_any _ _ _ _ _ A3.out A4.out).mono ?_
            rintro e w7 ⟨hb7, t3, t4, rfl, hd71, hd72⟩
            have PN := Lib.hid (show PSt x f (d + 1) vx t1 t2 t3 t4 w w7 from by
              have hs := HSTEP.out
              rw [← HI.out.1, HT.out, step_one] at hs
              exact ⟨U6.out.on hb7, by rw [hs]; exact A5.out.on hb7, by rw [hs]; exact A6.out.on hb7, by rw [hs]; exact hd71, by rw [hs]; exact hd72, B6.out.trans (hb7.mono B6.out.size)⟩)
            clear hb7 hd71 hd72
            go_wp2_with fail
            go_roundw
            case rel => exact ⟨d + 1, HI.out.2, by have := HI.out; go_num, PN.out⟩
            case measure => simp [intOf]
          · have t1' : ((y : Int) % 2 == 1) = false := by simp; omega
            have HT := Lib.hid (show f i = false from by rw [HBIT.out]; exact decide_eq_false hb)
            clear hb
            go_wp2_with fail
            refine (rtwice_any _ _ _ _ _ A1.out A2.out).mono ?_
            rintro e w7 ⟨hb7, t3, t4, rfl, hd71, hd72⟩
            have PN := Lib.hid (show PSt x f (d + 1) vx t3 t4 t1 t2 w w7 from by
              have hs := HSTEP.out
              rw [← HI.out.1, HT.out, step_nil] at hs
              exact ⟨U6.out.on hb7, by rw [hs]; exact hd71, by rw [hs]; exact hd72, by rw [hs]; exact A5.out.on hb7, by rw [hs]; exact A6.out.on hb7, B6.out.trans (hb7.mono B6.out.size)⟩)
            clear hb7 hd71 hd72
            go_wp2_with fail
            go_roundw
            case rel => exact ⟨d + 1, HI.out.2, by have := HI.out; go_num, PN.out⟩
            case measure => simp [intOf]
    · have j1 : ¬ 254 - (d : Int) ≥ 0 := by omega
      have hd5 : d = 255 := by have := HD.out; omega
      have HX2 := Lib.hid (show R = bs (le32 (MSE.outF (MSE.ladF x (bts f d)).1).val) from by rw [hd5]; exact HX.out)
      clear hlt hd5
      go_wp2_with fail
      refine (rpowF _ _ _ P1.out.p2).mono ?_
      rintro e w6 ⟨hb6, t1, rfl, hd6⟩
      have B6 := Lib.hid (P1.out.bel.trans (hb6.mono P1.out.bel.size))
      have A1 := Lib.hid (P1.out.p1.on hb6)
      have A2 := Lib.hid hd6
      clear hb6 hd6
      go_wp2_with fail
      refine (rmulF _ _ _ _ _ A1.out A2.out).mono ?_
      rintro e w7 ⟨hb7, t2, rfl, hd7⟩
      have B7 := Lib.hid (B6.out.trans (hb7.mono B6.out.size))
      have A3 := Lib.hid hd7
      clear hb7 hd7 B6
      go_wp2_with fail
      refine (rfbytes_any _ _ _ _ A3.out.val).mono ?_
      rintro e w8 ⟨rfl, hb8⟩
      have B8 := Lib.hid (B7.out.trans (hb8.mono B7.out.size))
      clear hb8 B7
      go_wp2_with fail
      go_ret
      exact ⟨by rw [HX2.out]; rfl, B8.out⟩
end Go.Proofs.Ythlmphloalbhnaa

/-
  mailsacklaw03.FeSwaps, FeLaws, FeNegs: the walks.
-/
namespace Go.Proofs.Ythlmphloalbhnaa
open Go.RowKit MS

set_option maxRecDepth 100000 in
set_option maxHeartbeats 2000000 in
theorem felaws_flat (a : N5) (ha : a.ok) (b : N5) (hb : b.ok) (c : N5) (hc : c.ok) (w : World) :
    Calls Try.prog 5 #[.agg (nvA a), .agg (nvA b), .agg (nvA c)] w fun e w' => e = .returned (.bool true) ∧ Below w.heap.size w w' := by
  have A := Lib.hid (fun w => awake03_any w)
  have C1 := Lib.hid (fun w => feadd_any a b ha hb w)
  have B1 := Lib.hid (fun w => febytes_any (add a b) (add_ok ha hb) w)
  have C2 := Lib.hid (fun w => feadd_any b a hb ha w)
  have B2 := Lib.hid (fun w => febytes_any (add b a) (add_ok hb ha) w)
  have C3 := Lib.hid (fun w => femul_any a b ha hb w)
  have B3 := Lib.hid (fun w => febytes_any (mul a b) (mul_ok ha hb) w)
  have C4 := Lib.hid (fun w => femul_any b a hb ha w)
  have B4 := Lib.hid (fun w => febytes_any (mul b a) (mul_ok hb ha) w)
  have C5 := Lib.hid (fun w => fesub_any a b ha hb w)
  have C6 := Lib.hid (fun w => feadd_any (sub a b) b (sub_ok ha) hb w)
  have B5 := Lib.hid (fun w => febytes_any (add (sub a b) b) (add_ok (sub_ok ha) hb) w)
  have B6 := Lib.hid (fun w => febytes_any a ha w)
  have C7 := Lib.hid (fun w => femul_any b c hb hc w)
  have C8 := Lib.hid (fun w => femul_any a (mul b c) ha (mul_ok hb hc) w)
  have B7 := Lib.hid (fun w => febytes_any (mul a (mul b c)) (mul_ok ha (mul_ok hb hc)) w)
  have C9 := Lib.hid (fun w => femul_any (mul a b) c (mul_ok ha hb) hc w)
  have B8 := Lib.hid (fun w => febytes_any (mul (mul a b) c) (mul_ok (mul_ok ha hb) hc) w)
  have D1 := Lib.hid (fun w => feadd_any b c hb hc w)
  have D2 := Lib.hid (fun w => femul_any a (add b c) ha (add_ok hb hc) w)
  have B9 := Lib.hid (fun w => febytes_any (mul a (add b c)) (mul_ok ha (add_ok hb hc)) w)
  have D3 := Lib.hid (fun w => femul_any a c ha hc w)
  have D4 := Lib.hid (fun w => feadd_any (mul a b) (mul a c) (mul_ok ha hb) (mul_ok ha hc) w)
  have BA := Lib.hid (fun w => febytes_any (add (mul a b) (mul a c)) (add_ok (mul_ok ha hb) (mul_ok ha hc)) w)
  rw [← feB_em (em_add_comm a b)] at B2
  rw [← feB_em (em_mul_comm a b)] at B4
  rw [feB_em (em_sub_add a hb)] at B5
  rw [← feB_em (em_mul_assoc a b c)] at B8
  rw [← feB_em (em_distrib a b c)] at BA
  generalize feB (add a b) = E1 at *
  generalize feB (mul a b) = E2 at *
  generalize feB a = E3 at *
  generalize feB (mul a (mul b c)) = E4 at *
  generalize feB (mul a (add b c)) = E5 at *
  have IA := Lib.hid (infoV a)
  have IB := Lib.hid (infoV b)
  have IC := Lib.hid (infoV c)
  have R0 := Lib.hid (show Rw w [(w.heap.size, nvA a, 24), (w.heap.size + 1, nvA b, 24), (w.heap.size + 1 + 1, nvA c, 24)] (((w.alloc (.cells (nvA a) 24 (0, 0))).alloc (.cells (nvA b) 24 (0, 0))).alloc (.cells (nvA c) 24 (0, 0))) from rw3 w (nvA a) (nvA b) (nvA c))
  generalize nvA (add (mul a b) (mul a c)) = x1 at *
  generalize nvA (mul a (add b c)) = x2 at *
  generalize nvA (mul (mul a b) c) = x3 at *
  generalize nvA (mul a (mul b c)) = x4 at *
  generalize nvA (add (sub a b) b) = x5 at *
  generalize nvA (add a b) = x6 at *
  generalize nvA (add b a) = x7 at *
  generalize nvA (mul a b) = x8 at *
  generalize nvA (mul b a) = x9 at *
  generalize nvA (mul b c) = y1 at *
  generalize nvA (mul a c) = y2 at *
  generalize nvA (add b c) = y3 at *
  generalize nvA (sub a b) = y4 at *
  generalize nvA a = ra at *
  generalize nvA b = rb at *
  generalize nvA c = rc at *
  clear ha hb hc
  go_enter Try.func5, Try.ntmps5
  go_upto_region 1 with fail
  generalize ((w.alloc (.cells ra 24 (0, 0))).alloc (.cells rb 24 (0, 0))).alloc (.cells rc 24 (0, 0)) = W at R0 ⊢
  generalize w.heap.size + 1 + 1 = gc at *
  generalize w.heap.size + 1 = gb at *
  generalize hga : w.heap.size = ga at *
  have RR := R0
  clear hga
  refine wp_region_below (by kernel_rfl) (by kernel_rfl) ?_
  go_big_quiet_want
  refine quiet_load_row 24 (.tmp 3) (by rfl) ga (by rfl) 24 ra (0, 0) _ ?hC Try.underlying24 rfl IA.out ?_
  case hC => rintro w' ⟨p, rfl⟩; exact (RR.out.on p.2).row 0
  simp only [Act.put, List.setIfInBounds_toArray, List.set_cons_zero, List.set_cons_succ]
  go_big_quiet_on
  go_big_quiet_want
  refine quiet_load_row 24 (.tmp 4) (by rfl) gb (by rfl) 24 rb (0, 0) _ ?hC Try.underlying24 rfl IB.out ?_
  case hC => rintro w' ⟨p, rfl⟩; exact (RR.out.on p.2).row 1
  simp only [Act.put, List.setIfInBounds_toArray, List.set_cons_zero, List.set_cons_succ]
  go_big_quiet_on
  go_big_quiet_step (exact calls_below (C1.out _))
  go_big_quiet_step (exact calls_below (B1.out _))
  go_big_quiet_want
  refine quiet_load_row 24 (.tmp 4) (by rfl) gb (by rfl) 24 rb (0, 0) _ ?hC Try.underlying24 rfl IB.out ?_
  case hC => rintro w' ⟨p, rfl⟩; exact (RR.out.on p.2).row 1
  simp only [Act.put, List.setIfInBounds_toArray, List.set_cons_zero, List.set_cons_succ]
  go_big_quiet_on
  go_big_quiet_want
  refine quiet_load_row 24 (.tmp 3) (by rfl) ga (by rfl) 24 ra (0, 0) _ ?hC Try.underlying24 rfl IA.out ?_
  case hC => rintro w' ⟨p, rfl⟩; exact (RR.out.on p.2).row 0
  simp only [Act.put, List.setIfInBounds_toArray, List.set_cons_zero, List.set_cons_succ]
  go_big_quiet_on
  go_big_quiet_step (exact calls_below (C2.out _))
  go_big_quiet_step (exact calls_below (B2.out _))
  go_big_quiet_step (fail)
  go_big_quiet_step (fail)
  go_big_quiet_want
  refine quiet_load_row 24 (.tmp 3) (by rfl) ga (by rfl) 24 ra (0, 0) _ ?hC Try.underlying24 rfl IA.out ?_
  case hC => rintro w' ⟨p, rfl⟩; exact (RR.out.on p.2).row 0
  simp only [Act.put, List.setIfInBounds_toArray, List.set_cons_zero, List.set_cons_succ]
  go_big_quiet_on
  go_big_quiet_want
  refine quiet_load_row 24 (.tmp 4) (by rfl) gb (by rfl) 24 rb (0, 0) _ ?hC Try.underlying24 rfl IB.out ?_
  case hC => rintro w' ⟨p, rfl⟩; exact (RR.out.on p.2).row 1
  simp only [Act.put, List.setIfInBounds_toArray, List.set_cons_zero, List.set_cons_succ]
  go_big_quiet_on
  go_big_quiet_step (exact calls_below (C3.out _))
  go_big_quiet_step (exact calls_below (B3.out _))
  go_big_quiet_want
  refine quiet_load_row 24 (.tmp 4) (by rfl) gb (by rfl) 24 rb (0, 0) _ ?hC Try.underlying24 rfl IB.out ?_
  case hC => rintro w' ⟨p, rfl⟩; exact (RR.out.on p.2).row 1
  simp only [Act.put, List.setIfInBounds_toArray, List.set_cons_zero, List.set_cons_succ]
  go_big_quiet_on
  go_big_quiet_want
  refine quiet_load_row 24 (.tmp 3) (by rfl) ga (by rfl) 24 ra (0, 0) _ ?hC Try.underlying24 rfl IA.out ?_
  case hC => rintro w' ⟨p, rfl⟩; exact (RR.out.on p.2).row 0
  simp only [Act.put, List.setIfInBounds_toArray, List.set_cons_zero, List.set_cons_succ]
  go_big_quiet_on
  go_big_quiet_step (exact calls_below (C4.out _))
  go_big_quiet_step (exact calls_below (B4.out _))
  go_big_quiet_step (fail)
  go_big_quiet_step (fail)
  go_big_quiet_step (fail)
  go_big_quiet_want
  refine quiet_load_row 24 (.tmp 3) (by rfl) ga (by rfl) 24 ra (0, 0) _ ?hC Try.underlying24 rfl IA.out ?_
  case hC => rintro w' ⟨p, rfl⟩; exact (RR.out.on p.2).row 0
  simp only [Act.put, List.setIfInBounds_toArray, List.set_cons_zero, List.set_cons_succ]
  go_big_quiet_on
  go_big_quiet_want
  refine quiet_load_row 24 (.tmp 4) (by rfl) gb (by rfl) 24 rb (0, 0) _ ?hC Try.underlying24 rfl IB.out ?_
  case hC => rintro w' ⟨p, rfl⟩; exact (RR.out.on p.2).row 1
  simp only [Act.put, List.setIfInBounds_toArray, List.set_cons_zero, List.set_cons_succ]
  go_big_quiet_on
  go_big_quiet_step (exact calls_below (C5.out _))
  go_big_quiet_want
  refine quiet_load_row 24 (.tmp 4) (by rfl) gb (by rfl) 24 rb (0, 0) _ ?hC Try.underlying24 rfl IB.out ?_
  case hC => rintro w' ⟨p, rfl⟩; exact (RR.out.on p.2).row 1
  simp only [Act.put, List.setIfInBounds_toArray, List.set_cons_zero, List.set_cons_succ]
  go_big_quiet_on
  go_big_quiet_step (exact calls_below (C6.out _))
  go_big_quiet_step (exact calls_below (B5.out _))
  go_big_quiet_want
  refine quiet_load_row 24 (.tmp 3) (by rfl) ga (by rfl) 24 ra (0, 0) _ ?hC Try.underlying24 rfl IA.out ?_
  case hC => rintro w' ⟨p, rfl⟩; exact (RR.out.on p.2).row 0
  simp only [Act.put, List.setIfInBounds_toArray, List.set_cons_zero, List.set_cons_succ]
  go_big_quiet_on
  go_big_quiet_step (exact calls_below (B6.out _))
  go_big_quiet_step (fail)
  go_big_quiet_step (fail)
  refine wpQuiet_nil ?_
  rintro _ ⟨p, rfl⟩
  have RR := Lib.hid (RR.out.on p.2)
  generalize p.1 = wq at RR ⊢
  go_upto_region 3 with fail
  refine wp_region_below (by kernel_rfl) (by kernel_rfl) ?_
  go_big_quiet_want
  refine quiet_load_row 24 (.tmp 3) (by rfl) ga (by rfl) 24 ra (0, 0) _ ?hC Try.underlying24 rfl IA.out ?_
  case hC => rintro w' ⟨p, rfl⟩; exact (RR.out.on p.2).row 0
  simp only [Act.put, List.setIfInBounds_toArray, List.set_cons_zero, List.set_cons_succ]
  go_big_quiet_on
  go_big_quiet_want
  refine quiet_load_row 24 (.tmp 4) (by rfl) gb (by rfl) 24 rb (0, 0) _ ?hC Try.underlying24 rfl IB.out ?_
  case hC => rintro w' ⟨p, rfl⟩; exact (RR.out.on p.2).row 1
  simp only [Act.put, List.setIfInBounds_toArray, List.set_cons_zero, List.set_cons_succ]
  go_big_quiet_on
  go_big_quiet_want
  refine quiet_load_row 24 (.tmp 5) (by rfl) gc (by rfl) 24 rc (0, 0) _ ?hC Try.underlying24 rfl IC.out ?_
  case hC => rintro w' ⟨p, rfl⟩; exact (RR.out.on p.2).row 2
  simp only [Act.put, List.setIfInBounds_toArray, List.set_cons_zero, List.set_cons_succ]
  go_big_quiet_on
  go_big_quiet_step (exact calls_below (C7.out _))
  go_big_quiet_step (exact calls_below (C8.out _))
  go_big_quiet_step (exact calls_below (B7.out _))
  go_big_quiet_want
  refine quiet_load_row 24 (.tmp 3) (by rfl) ga (by rfl) 24 ra (0, 0) _ ?hC Try.underlying24 rfl IA.out ?_
  case hC => rintro w' ⟨p, rfl⟩; exact (RR.out.on p.2).row 0
  simp only [Act.put, List.setIfInBounds_toArray, List.set_cons_zero, List.set_cons_succ]
  go_big_quiet_on
  go_big_quiet_want
  refine quiet_load_row 24 (.tmp 4) (by rfl) gb (by rfl) 24 rb (0, 0) _ ?hC Try.underlying24 rfl IB.out ?_
  case hC => rintro w' ⟨p, rfl⟩; exact (RR.out.on p.2).row 1
  simp only [Act.put, List.setIfInBounds_toArray, List.set_cons_zero, List.set_cons_succ]
  go_big_quiet_on
  go_big_quiet_step (exact calls_below (C3.out _))
  go_big_quiet_want
  refine quiet_load_row 24 (.tmp 5) (by rfl) gc (by rfl) 24 rc (0, 0) _ ?hC Try.underlying24 rfl IC.out ?_
  case hC => rintro w' ⟨p, rfl⟩; exact (RR.out.on p.2).row 2
  simp only [Act.put, List.setIfInBounds_toArray, List.set_cons_zero, List.set_cons_succ]
  go_big_quiet_on
  go_big_quiet_step (exact calls_below (C9.out _))
  go_big_quiet_step (exact calls_below (B8.out _))
  go_big_quiet_step (fail)
  refine wpQuiet_nil ?_
  rintro _ ⟨p, rfl⟩
  have RR := Lib.hid (RR.out.on p.2)
  generalize p.1 = wq at RR ⊢
  go_upto_region 5 with fail
  refine wp_region_below (by kernel_rfl) (by kernel_rfl) ?_
  go_big_quiet_want
  refine quiet_load_row 24 (.tmp 3) (by rfl) ga (by rfl) 24 ra (0, 0) _ ?hC Try.underlying24 rfl IA.out ?_
  case hC => rintro w' ⟨p, rfl⟩; exact (RR.out.on p.2).row 0
  simp only [Act.put, List.setIfInBounds_toArray, List.set_cons_zero, List.set_cons_succ]
  go_big_quiet_on
  go_big_quiet_want
  refine quiet_load_row 24 (.tmp 4) (by rfl) gb (by rfl) 24 rb (0, 0) _ ?hC Try.underlying24 rfl IB.out ?_
  case hC => rintro w' ⟨p, rfl⟩; exact (RR.out.on p.2).row 1
  simp only [Act.put, List.setIfInBounds_toArray, List.set_cons_zero, List.set_cons_succ]
  go_big_quiet_on
  go_big_quiet_want
  refine quiet_load_row 24 (.tmp 5) (by rfl) gc (by rfl) 24 rc (0, 0) _ ?hC Try.underlying24 rfl IC.out ?_
  case hC => rintro w' ⟨p, rfl⟩; exact (RR.out.on p.2).row 2
  simp only [Act.put, List.setIfInBounds_toArray, List.set_cons_zero, List.set_cons_succ]
  go_big_quiet_on
  go_big_quiet_step (exact calls_below (D1.out _))
  go_big_quiet_step (exact calls_below (D2.out _))
  go_big_quiet_step (exact calls_below (B9.out _))
  go_big_quiet_want
  refine quiet_load_row 24 (.tmp 3) (by rfl) ga (by rfl) 24 ra (0, 0) _ ?hC Try.underlying24 rfl IA.out ?_
  case hC => rintro w' ⟨p, rfl⟩; exact (RR.out.on p.2).row 0
  simp only [Act.put, List.setIfInBounds_toArray, List.set_cons_zero, List.set_cons_succ]
  go_big_quiet_on
  go_big_quiet_want
  refine quiet_load_row 24 (.tmp 4) (by rfl) gb (by rfl) 24 rb (0, 0) _ ?hC Try.underlying24 rfl IB.out ?_
  case hC => rintro w' ⟨p, rfl⟩; exact (RR.out.on p.2).row 1
  simp only [Act.put, List.setIfInBounds_toArray, List.set_cons_zero, List.set_cons_succ]
  go_big_quiet_on
  go_big_quiet_step (exact calls_below (C3.out _))
  go_big_quiet_want
  refine quiet_load_row 24 (.tmp 3) (by rfl) ga (by rfl) 24 ra (0, 0) _ ?hC Try.underlying24 rfl IA.out ?_
  case hC => rintro w' ⟨p, rfl⟩; exact (RR.out.on p.2).row 0
  simp only [Act.put, List.setIfInBounds_toArray, List.set_cons_zero, List.set_cons_succ]
  go_big_quiet_on
  go_big_quiet_want
  refine quiet_load_row 24 (.tmp 5) (by rfl) gc (by rfl) 24 rc (0, 0) _ ?hC Try.underlying24 rfl IC.out ?_
  case hC => rintro w' ⟨p, rfl⟩; exact (RR.out.on p.2).row 2
  simp only [Act.put, List.setIfInBounds_toArray, List.set_cons_zero, List.set_cons_succ]
  go_big_quiet_on
  go_big_quiet_step (exact calls_below (D3.out _))
  go_big_quiet_step (exact calls_below (D4.out _))
  go_big_quiet_step (exact calls_below (BA.out _))
  go_big_quiet_step (fail)
  go_big_quiet_step (fail)
  go_big_quiet_step (exact calls_below (A.out _))
  go_big_quiet_step (fail)
  go_big_quiet_step (fail)
  refine wpQuiet_nil ?_
  rintro _ ⟨p, rfl⟩
  have RR := Lib.hid (RR.out.on p.2)
  generalize p.1 = wq at RR ⊢
  go_wp2_with fail
  go_ret
  exact ⟨rfl, RR.out.bel⟩
end Go.Proofs.Ythlmphloalbhnaa

/-
  mailsacklaw03.FeSwaps: the walk.
-/
namespace Go.Proofs.Ythlmphloalbhnaa
open Go.RowKit MS

theorem wpList_load_row_g {P : Program} {ops : Array Oper} {rest : List Oper} {o : Oper} {a : Act} {w : World} {Q : Exit → Act → World → Prop} (hw : Region.wanted o (yielded ops a.tmps) = true) (ty : TypeId) (x : Operand) (ho : o.op = .load ty x)
    (g : Nat) (hx : a.eval x = .pointer (some ⟨g, 0, none⟩)) (t : TypeId) (cs : Array Value) (fr : Nat × Nat) (d : TypeDesc) (hg : w.heap[g]? = some (.cells cs t fr))
    (hu : P.underlying ty = some d) (hd : (match d with | .struct _ | .array _ _ => true | _ => false) = true) (hi : (P.info? ty).map (·.size) = some cs.size)
    (h : wpList P ops Q rest (a.put o.dst (.agg cs)) w) : wpList P ops Q (o :: rest) a w :=
  BigFrame.wpList_want hw fun _ hK => wp_load_row ty x ho g hx t cs fr d hg hu hd hi (hK _ _ h)
set_option maxRecDepth 100000 in
set_option maxHeartbeats 2000000 in
theorem feswaps_any (a : N5) (ha : a.ok) (b : N5) (hb : b.ok) (yes : Bool) (w : World) :
    Calls Try.prog 7 #[.agg (nvA a), .agg (nvA b), .bool yes] w fun e w' => e = .returned (.bool true) ∧ Below w.heap.size w w' := by
  have A := Lib.hid (fun w => awake03_any w)
  have S := Lib.hid (fun w => swap_any a b yes ha hb w)
  have IA := Lib.hid (infoV a)
  have IB := Lib.hid (infoV b)
  have OA := Lib.hid (one_nvA a)
  have OB := Lib.hid (one_nvA b)
  have LA := Lib.hid (show (#[.int .u64 0, .int .u64 0, .int .u64 0, .int .u64 0, .int .u64 0] : Array Value).size = (nvA a).size from rfl)
  have LB := Lib.hid (show (#[.int .u64 0, .int .u64 0, .int .u64 0, .int .u64 0, .int .u64 0] : Array Value).size = (nvA b).size from rfl)
  have QA := fun w => run_eql_num a w
  have QB := fun w => run_eql_num b w
  have R0 := Lib.hid (show Rw w [(w.heap.size, nvA a, 24), (w.heap.size + 1, nvA b, 24)] ((w.alloc (.cells (nvA a) 24 (0, 0))).alloc (.cells (nvA b) 24 (0, 0))) from rw2 w (nvA a) (nvA b))
  have S1 := Lib.hid (show ∀ w, yes = true → Calls Try.prog 27 #[.agg (nvA a), .agg (nvA b), .bool true] w fun e w' => e = .returned (.tuple #[.agg (nvA b), .agg (nvA a)]) ∧ Below w.heap.size w w' from fun w h => by have := S.out w; rw [h] at this; exact this)
  have S2 := Lib.hid (show ∀ w, yes = false → Calls Try.prog 27 #[.agg (nvA a), .agg (nvA b), .bool false] w fun e w' => e = .returned (.tuple #[.agg (nvA a), .agg (nvA b)]) ∧ Below w.heap.size w w' from fun w h => by have := S.out w; rw [h] at this; exact this)
  clear S ha hb
  generalize nvA a = ra at *
  generalize nvA b = rb at *
  cases yes
  case false =>
    go_enter Try.func7, Try.ntmps7
    go_upto_region 1 with fail
    generalize (w.alloc (.cells ra 24 (0, 0))).alloc (.cells rb 24 (0, 0)) = W at R0 ⊢
    generalize w.heap.size + 1 = gb at *
    generalize hga : w.heap.size = ga at *
    clear hga
    have RA := Lib.hid (R0.out.row 0)
    have RB := Lib.hid (R0.out.row 1)
    go_wp2_with (first
      | (with_reducible refine wpList_load_row rfl 24 (.tmp 3) rfl ga rfl 24 ra (0, 0) _ RA.out Try.underlying24 rfl IA.out ?_)
      | (with_reducible refine wpList_load_row rfl 24 (.tmp 4) rfl gb rfl 24 rb (0, 0) _ RB.out Try.underlying24 rfl IB.out ?_))
    refine (S2.out _ trivial).mono ?_
    rintro e w5 ⟨rfl, hb5⟩
    have r1 := ((R0.out.on hb5).alloc #[.int .u64 0, .int .u64 0, .int .u64 0, .int .u64 0, .int .u64 0] 24).alloc #[.int .u64 0, .int .u64 0, .int .u64 0, .int .u64 0, .int .u64 0] 24
    rw [World.size_alloc] at r1
    have R1 := Lib.hid r1
    have R2 := Lib.hid (R1.out.store 2 ra)
    have R3 := Lib.hid (R2.out.store 3 rb)
    have RC := Lib.hid (R1.out.row 2)
    have RD := Lib.hid (R2.out.row 3)
    clear hb5 r1
    go_upto_region 2 with (first
      | (with_reducible refine wpList_store_row rfl 24 (.tmp 7) (.tmp 14) rfl w5.heap.size ra rfl rfl 24 #[.int .u64 0, .int .u64 0, .int .u64 0, .int .u64 0, .int .u64 0] RC.out IA.out LA.out OA.out ?_)
      | (with_reducible refine wpList_store_row rfl 24 (.tmp 8) (.tmp 15) rfl (w5.heap.size + 1) rb rfl rfl 24 #[.int .u64 0, .int .u64 0, .int .u64 0, .int .u64 0, .int .u64 0] RD.out IB.out LB.out OB.out ?_))
    simp only [Act.put]
    have R4 := Lib.hid (show Rw w [(ga, ra, 24), (gb, rb, 24), (w5.heap.size, ra, 24), (w5.heap.size + 1, rb, 24)] ((((w5.alloc (.cells #[.int .u64 0, .int .u64 0, .int .u64 0, .int .u64 0, .int .u64 0] 24 (0, 0))).alloc (.cells #[.int .u64 0, .int .u64 0, .int .u64 0, .int .u64 0, .int .u64 0] 24 (0, 0))).setRow w5.heap.size ra).setRow (w5.heap.size + 1) rb) from R3.out)
    generalize (((w5.alloc (.cells #[.int .u64 0, .int .u64 0, .int .u64 0, .int .u64 0, .int .u64 0] 24 (0, 0))).alloc (.cells #[.int .u64 0, .int .u64 0, .int .u64 0, .int .u64 0, .int .u64 0] 24 (0, 0))).setRow w5.heap.size ra).setRow (w5.heap.size + 1) rb = w6 at R4 ⊢
    generalize w5.heap.size + 1 = g8 at *
    generalize w5.heap.size = g7 at *
    have RX := Lib.hid (R4.out.row 0)
    have RY := Lib.hid (R4.out.row 1)
    have RU := Lib.hid (R4.out.row 2)
    have RV := Lib.hid (R4.out.row 3)
    clear RA RB RC RD R0 R1 R2 R3
    go_wp2_with (first
      | (with_reducible refine wpList_load_row rfl 24 (.tmp 7) rfl g7 rfl 24 ra (0, 0) _ RU.out Try.underlying24 rfl IA.out ?_)
      | (with_reducible refine wpList_load_row rfl 24 (.tmp 3) rfl ga rfl 24 ra (0, 0) _ RX.out Try.underlying24 rfl IA.out ?_)
      | (with_reducible refine wpList_load_row rfl 24 (.tmp 4) rfl gb rfl 24 rb (0, 0) _ RY.out Try.underlying24 rfl IB.out ?_)
      | (with_reducible refine wpList_load_row_g (by with_unfolding_all exact rfl) 24 (.tmp 8) rfl g8 rfl 24 rb (0, 0) _ RV.out Try.underlying24 rfl IB.out ?_)
      | (with_reducible refine wpList_load_row_g (by with_unfolding_all exact rfl) 24 (.tmp 3) rfl ga rfl 24 ra (0, 0) _ RX.out Try.underlying24 rfl IA.out ?_)
      | (with_reducible refine wpList_load_row_g (by with_unfolding_all exact rfl) 24 (.tmp 4) rfl gb rfl 24 rb (0, 0) _ RY.out Try.underlying24 rfl IB.out ?_))
    refine (A.out _).mono ?_
    rintro e w7 ⟨rfl, hb7⟩
    have hz := (R4.out.on hb7).bel
    clear hb7 R4 RX RY RU RV
    go_wp2_with fail
    go_ret
    exact ⟨rfl, hz⟩
  case true =>
    go_enter Try.func7, Try.ntmps7
    go_upto_region 1 with fail
    generalize (w.alloc (.cells ra 24 (0, 0))).alloc (.cells rb 24 (0, 0)) = W at R0 ⊢
    generalize w.heap.size + 1 = gb at *
    generalize hga : w.heap.size = ga at *
    clear hga
    have RA := Lib.hid (R0.out.row 0)
    have RB := Lib.hid (R0.out.row 1)
    go_wp2_with (first
      | (with_reducible refine wpList_load_row rfl 24 (.tmp 3) rfl ga rfl 24 ra (0, 0) _ RA.out Try.underlying24 rfl IA.out ?_)
      | (with_reducible refine wpList_load_row rfl 24 (.tmp 4) rfl gb rfl 24 rb (0, 0) _ RB.out Try.underlying24 rfl IB.out ?_))
    refine (S1.out _ trivial).mono ?_
    rintro e w5 ⟨rfl, hb5⟩
    have r1 := ((R0.out.on hb5).alloc #[.int .u64 0, .int .u64 0, .int .u64 0, .int .u64 0, .int .u64 0] 24).alloc #[.int .u64 0, .int .u64 0, .int .u64 0, .int .u64 0, .int .u64 0] 24
    rw [World.size_alloc] at r1
    have R1 := Lib.hid r1
    have R2 := Lib.hid (R1.out.store 2 rb)
    have R3 := Lib.hid (R2.out.store 3 ra)
    have RC := Lib.hid (R1.out.row 2)
    have RD := Lib.hid (R2.out.row 3)
    clear hb5 r1
    go_upto_region 2 with (first
      | (with_reducible refine wpList_store_row rfl 24 (.tmp 7) (.tmp 14) rfl w5.heap.size rb rfl rfl 24 #[.int .u64 0, .int .u64 0, .int .u64 0, .int .u64 0, .int .u64 0] RC.out IB.out LB.out OB.out ?_)
      | (with_reducible refine wpList_store_row rfl 24 (.tmp 8) (.tmp 15) rfl (w5.heap.size + 1) ra rfl rfl 24 #[.int .u64 0, .int .u64 0, .int .u64 0, .int .u64 0, .int .u64 0] RD.out IA.out LA.out OA.out ?_))
    simp only [Act.put]
    have R4 := Lib.hid (show Rw w [(ga, ra, 24), (gb, rb, 24), (w5.heap.size, rb, 24), (w5.heap.size + 1, ra, 24)] ((((w5.alloc (.cells #[.int .u64 0, .int .u64 0, .int .u64 0, .int .u64 0, .int .u64 0] 24 (0, 0))).alloc (.cells #[.int .u64 0, .int .u64 0, .int .u64 0, .int .u64 0, .int .u64 0] 24 (0, 0))).setRow w5.heap.size rb).setRow (w5.heap.size + 1) ra) from R3.out)
    generalize (((w5.alloc (.cells #[.int .u64 0, .int .u64 0, .int .u64 0, .int .u64 0, .int .u64 0] 24 (0, 0))).alloc (.cells #[.int .u64 0, .int .u64 0, .int .u64 0, .int .u64 0, .int .u64 0] 24 (0, 0))).setRow w5.heap.size rb).setRow (w5.heap.size + 1) ra = w6 at R4 ⊢
    generalize w5.heap.size + 1 = g8 at *
    generalize w5.heap.size = g7 at *
    have RX := Lib.hid (R4.out.row 0)
    have RY := Lib.hid (R4.out.row 1)
    have RU := Lib.hid (R4.out.row 2)
    have RV := Lib.hid (R4.out.row 3)
    clear RA RB RC RD R0 R1 R2 R3
    go_wp2_with (first
      | (with_reducible refine wpList_load_row rfl 24 (.tmp 7) rfl g7 rfl 24 rb (0, 0) _ RU.out Try.underlying24 rfl IB.out ?_)
      | (with_reducible refine wpList_load_row rfl 24 (.tmp 3) rfl ga rfl 24 ra (0, 0) _ RX.out Try.underlying24 rfl IA.out ?_)
      | (with_reducible refine wpList_load_row rfl 24 (.tmp 4) rfl gb rfl 24 rb (0, 0) _ RY.out Try.underlying24 rfl IB.out ?_)
      | (with_reducible refine wpList_load_row_g (by with_unfolding_all exact rfl) 24 (.tmp 8) rfl g8 rfl 24 ra (0, 0) _ RV.out Try.underlying24 rfl IA.out ?_)
      | (with_reducible refine wpList_load_row_g (by with_unfolding_all exact rfl) 24 (.tmp 3) rfl ga rfl 24 ra (0, 0) _ RX.out Try.underlying24 rfl IA.out ?_)
      | (with_reducible refine wpList_load_row_g (by with_unfolding_all exact rfl) 24 (.tmp 4) rfl gb rfl 24 rb (0, 0) _ RY.out Try.underlying24 rfl IB.out ?_))
    refine (A.out _).mono ?_
    rintro e w7 ⟨rfl, hb7⟩
    have hz := (R4.out.on hb7).bel
    clear hb7 R4 RX RY RU RV
    go_wp2_with fail
    go_ret
    exact ⟨rfl, hz⟩
end Go.Proofs.Ythlmphloalbhnaa

/-
  A region that draws its order: operations that are quiet (they read; their callees make memory and hand back one value), behind them in the text some that make a variable (they may come up at any time between the quiet ones), and a tail that stands in one forced order.
  One walk of the quiet ones serves every order; the variables' addresses are letters.
-/
namespace MS
open Go Go.RowKit
section
variable {P : Program} {ops : Array Oper} {md : Region.Mode}

def BWc (p : World) : World → Prop := fun w' => ∃ q : BW p, w' = q.1
theorem BWc.of {p w : World} (h : Below p.heap.size p w) : BWc p w := ⟨⟨w, h⟩, rfl⟩
theorem BWc.below {p w : World} (h : BWc p w) : Below p.heap.size p w := by
  obtain ⟨q, rfl⟩ := h
  exact q.2

/-- Operation i makes an object, whatever the frame and the world are. -/
def Maker (P : Program) (ops : Array Oper) (i d : Nat) (ob : Obj) : Prop :=
  ∃ o, ops[i]? = some o ∧ o.dst = some d ∧ (∀ a : Act, Region.wanted o (yielded ops a.tmps) = true) ∧ ∀ (a : Act) (w : World), (execOp a.eval o).run P w = .ok (.value (.pointer (some ⟨w.heap.size, 0, none⟩))) (w.alloc ob)
def updR (rows : Nat → Option Obj) (g : Nat) (o : Obj) : Nat → Option Obj := fun x => if x = g then some o else rows x
theorem updR_same (rows : Nat → Option Obj) (g : Nat) (o : Obj) : updR rows g o g = some o := if_pos rfl
theorem updR_ne (rows : Nat → Option Obj) {g x : Nat} (o : Obj) (h : x ≠ g) : updR rows g o x = rows x := if_neg h
theorem updR_comm (rows : Nat → Option Obj) {g g' : Nat} (o o' : Obj) (h : g ≠ g') : updR (updR rows g o) g' o' = updR (updR rows g' o') g o := by
  funext x
  unfold updR
  by_cases h1 : x = g
  · subst h1
    rw [if_neg h, if_pos rfl, if_pos rfl]
  · by_cases h2 : x = g'
    · rw [if_pos h2, if_neg h1, if_pos h2]
    · rw [if_neg h2, if_neg h1, if_neg h1, if_neg h2]
def Holds (rows : Nat → Option Obj) (w : World) : Prop := ∀ g o, rows g = some o → w.heap[g]? = some o
abbrev ptrV (g : Nat) : Value := .pointer (some ⟨g, 0, none⟩)

def wpMk (P : Program) (md : Region.Mode) (ops : Array Oper) (w0 : World) (n : Nat) (mk : Nat → Nat × Obj) (L : (Nat → Option Obj) → Array Bool → Act → Prop) : Nat → (Nat → Option Obj) → Array Bool → Act → Prop
  | 0, rows, listed, a => L rows listed a
  | f + 1, rows, listed, a => Region.ready md ops listed ≠ [] ∧ ∀ i ∈ Region.ready md ops listed,
      (i < n ∧ ∃ o v, ops[i]? = some o ∧ (∀ p, Below w0.heap.size w0 p → YieldsIn P ops (BWc p) o v a) ∧ wpMk P md ops w0 n mk L f rows (listed.setIfInBounds i true) (a.put o.dst v)) ∨
      (n ≤ i ∧ Maker P ops i (mk i).1 (mk i).2 ∧ ∀ g, w0.heap.size ≤ g → rows g = none → wpMk P md ops w0 n mk L f (updR rows g (mk i).2) (listed.setIfInBounds i true) (a.put (some (mk i).1) (ptrV g)))

theorem wpAny_of_mk {w0 : World} {n g : Nat} {mk : Nat → Nat × Obj} {L : (Nat → Option Obj) → Array Bool → Act → Prop} {Q' : Exit → Act → World → Prop}
    (hL : ∀ rows listed a w, Below w0.heap.size w0 w → Holds rows w → L rows listed a → wpAny P md ops Q' g listed a w) :
    ∀ (f : Nat) (rows : Nat → Option Obj) (listed : Array Bool) (a : Act) (w : World), Below w0.heap.size w0 w → Holds rows w → wpMk P md ops w0 n mk L f rows listed a → wpAny P md ops Q' (f + g) listed a w
  | 0, rows, listed, a, w, hb, hh, h => by rw [Nat.zero_add]; exact hL _ _ _ _ hb hh h
  | f + 1, rows, listed, a, w, hb, hh, h => by
    rw [show f + 1 + g = (f + g) + 1 by omega]
    refine ⟨fun h0 => absurd h0 h.1, fun i hi => ?_⟩
    rcases h.2 i hi with ⟨_, o, v, ho, hy, hK⟩ | ⟨_, ⟨o, ho, hd, hw, hrun⟩, hK⟩
    · refine wpOp_of_qOp (C := BWc w) (K := fun a' => a' = a.put o.dst v) (BWc.of (Below.refl _ _)) ?_ ((hy w hb).qOp ho rfl)
      rintro a' w' hw' rfl
      have hb' := hw'.below
      refine wpAny_of_mk hL f rows _ _ w' (hb.trans (hb'.mono hb.size)) (fun g' o' hr => ?_) hK
      have h1 := hh g' o' hr
      rw [hb'.block _ (Array.getElem?_eq_some_iff.1 h1).1]
      exact h1
    · unfold wpOp
      simp only [ho]
      rw [if_pos (hw a)]
      refine .inl ?_
      unfold Oper.wp
      rw [hrun]
      simp only [Oper.upon, hd]
      refine wpAny_of_mk hL f _ _ _ _ (below_alloc hb _) ?_ (hK w.heap.size hb.size ?_)
      · intro g' o' hr
        by_cases e : g' = w.heap.size
        · subst e
          rw [updR_same] at hr
          rw [← hr]
          exact heap_alloc_new _ _
        · rw [updR_ne _ _ e] at hr
          have h1 := hh g' o' hr
          rw [heap_alloc_old _ _ (Array.getElem?_eq_some_iff.1 h1).1]
          exact h1
      · cases hr : rows w.heap.size with
        | none => rfl
        | some o' =>
          have := (Array.getElem?_eq_some_iff.1 (hh _ _ hr)).1
          omega

theorem mk_first_quiet {w0 : World} {n n' i : Nat} {mk : Nat → Nat × Obj} {oi : Oper} {v : Value} {L : (Nat → Option Obj) → Array Bool → Act → Prop} (hi : ops[i]? = some oi) (hsel : ∀ (j : Nat) (o : Oper) cs b, ops[j]? = some o → o.op ≠ .select cs b)
    (hs : Region.sinkB md ops n' = true) (hc : Region.chainB md ops n' = true) (hn : n' < ops.size) (hin : i < n) (hnn : n ≤ n')
    (hdone : ∀ rows listed a, L rows listed a → ∀ j ∈ Region.ready md ops listed, n' ≤ j) :
    ∀ (f : Nat) (rows : Nat → Option Obj) (listed : Array Bool) (a : Act), HeadInv md ops n' listed →
      (∀ j oj, ops[j]? = some oj → j ≠ i → listed.getD j true = false → (∀ e ∈ oj.after, Region.binds md e = true → e.on ≠ i) → oi.apart ops oj = true) →
      i ∈ Region.ready md ops listed → (∀ p, Below w0.heap.size w0 p → YieldsIn P ops (BWc p) oi v a) →
      wpMk P md ops w0 n mk L f rows (listed.setIfInBounds i true) (a.put oi.dst v) → wpMk P md ops w0 n mk L (f + 1) rows listed a := by
  intro f
  induction f with
  | zero =>
    intro rows listed a inv _ hr hy H
    have hun := (mem_ready.1 hr).1
    refine ⟨fun h => (by rw [h] at hr; cases hr), fun j hj => ?_⟩
    have hjn : j < n' := by
      rcases Nat.lt_or_ge j n' with h | h
      · exact h
      · exact absurd hj (tail_waits hs hc hn inv _ i rfl (Nat.lt_of_lt_of_le hin hnn) hun j h)
    by_cases hji : j = i
    · subst hji
      exact .inl ⟨hin, oi, v, hi, hy, H⟩
    · have := hdone _ _ _ H j (ready_mono hj hji)
      omega
  | succ f ih =>
    intro rows listed a inv hfree hr hy H
    have hun := (mem_ready.1 hr).1
    refine ⟨fun h => (by rw [h] at hr; cases hr), fun j hj => ?_⟩
    have hjn : j < n' := by
      rcases Nat.lt_or_ge j n' with h | h
      · exact h
      · exact absurd hj (tail_waits hs hc hn inv _ i rfl (Nat.lt_of_lt_of_le hin hnn) hun j h)
    by_cases hji : j = i
    · subst hji
      exact .inl ⟨hin, oi, v, hi, hy, H⟩
    · obtain ⟨hjun, oj, hoj, hall⟩ := mem_ready.1 hj
      have hnot : ∀ e ∈ oj.after, Region.binds md e = true → e.on ≠ i := fun e he hb heq => by
        have h1 := hall e he hb
        rw [heq, getD_both hun] at h1
        cases h1
      obtain ⟨h1, h2, h3⟩ := Oper.apart_spec (hfree j oj hoj hji hjun hnot)
      have hsi : ∀ cs b, oi.op ≠ .select cs b := fun cs b => hsel i oi cs b hi
      have hsj : ∀ cs b, oj.op ≠ .select cs b := fun cs b => hsel j oj cs b hoj
      have hfree' : ∀ k ok, ops[k]? = some ok → k ≠ i → (listed.setIfInBounds j true).getD k true = false →
          (∀ e ∈ ok.after, Region.binds md e = true → e.on ≠ i) → oi.apart ops ok = true := fun k ok hk hki hun hno => by
        refine hfree k ok hk hki ?_ hno
        by_cases hjk : j = k
        · subst hjk; exact hjun
        · rw [getD_set_ne true hjk] at hun; exact hun
      rcases H.2 j (ready_mono hj hji) with ⟨hq, oj', u, hoj', hyj, hK⟩ | ⟨hq, hM, hK⟩
      · have : oj' = oj := Option.some.inj (hoj'.symm.trans hoj)
        subst this
        refine .inl ⟨hq, oj', u, hoj, fun p hp => (hyj p hp).of_same (execOp_put oj' hsj a oi.dst v h1).symm (wanted_put oj' a oi.dst v h1).symm, ?_⟩
        refine ih rows (listed.setIfInBounds j true) _ (inv.set hj hjn) hfree' (ready_mono hr (Ne.symm hji)) (fun p hp => (hy p hp).of_same (execOp_put oi hsi a oj'.dst u h3) (wanted_put oi a oj'.dst u h3)) ?_
        rw [Array.setIfInBounds_comm _ _ hji, ← Act.put_comm a v u h2]
        exact hK
      · obtain ⟨oj', hoj', hd, hw, hrun⟩ := hM
        have : oj' = oj := Option.some.inj (hoj'.symm.trans hoj)
        subst this
        refine .inr ⟨hq, ⟨oj', hoj, hd, hw, hrun⟩, fun g hg hr0 => ?_⟩
        rw [hd] at h2 h3
        refine ih _ (listed.setIfInBounds j true) _ (inv.set hj hjn) hfree' (ready_mono hr (Ne.symm hji)) (fun p hp => (hy p hp).of_same (execOp_put oi hsi a _ (ptrV g) h3) (wanted_put oi a _ (ptrV g) h3)) ?_
        rw [Array.setIfInBounds_comm _ _ hji, ← Act.put_comm a v (ptrV g) h2]
        exact hK g hg hr0

theorem mk_first_maker {w0 : World} {n n' i : Nat} {mk : Nat → Nat × Obj} {oi : Oper} {L : (Nat → Option Obj) → Array Bool → Act → Prop} (hM : Maker P ops i (mk i).1 (mk i).2) (hi : ops[i]? = some oi)
    (hs : Region.sinkB md ops n' = true) (hc : Region.chainB md ops n' = true) (hn : n' < ops.size) (hni : n ≤ i) (hin : i < n')
    (hdone : ∀ rows listed a, L rows listed a → ∀ j ∈ Region.ready md ops listed, n' ≤ j) :
    ∀ (f : Nat) (rows : Nat → Option Obj) (listed : Array Bool) (a : Act), HeadInv md ops n' listed → (∀ q, q < n → listed.getD q true = true) →
      (∀ j oj, ops[j]? = some oj → j ≠ i → listed.getD j true = false → (∀ e ∈ oj.after, Region.binds md e = true → e.on ≠ i) → oi.apart ops oj = true) →
      i ∈ Region.ready md ops listed → (∃ N, ∀ g, N ≤ g → rows g = none) →
      (∀ g, w0.heap.size ≤ g → rows g = none → wpMk P md ops w0 n mk L f (updR rows g (mk i).2) (listed.setIfInBounds i true) (a.put (some (mk i).1) (ptrV g))) → wpMk P md ops w0 n mk L (f + 1) rows listed a := by
  have hdi : oi.dst = some (mk i).1 := by
    obtain ⟨o, ho, hd, _⟩ := hM
    have : o = oi := Option.some.inj (ho.symm.trans hi)
    rw [← this]
    exact hd
  intro f
  induction f with
  | zero =>
    intro rows listed a inv hq _ hr hfin H
    have hun := (mem_ready.1 hr).1
    refine ⟨fun h => (by rw [h] at hr; cases hr), fun j hj => ?_⟩
    have hjn : j < n' := by
      rcases Nat.lt_or_ge j n' with h | h
      · exact h
      · exact absurd hj (tail_waits hs hc hn inv _ i rfl hin hun j h)
    by_cases hji : j = i
    · subst hji
      exact .inr ⟨hni, hM, H⟩
    · obtain ⟨N, hN⟩ := hfin
      have := hdone _ _ _ (H (max N w0.heap.size) (Nat.le_max_right _ _) (hN _ (Nat.le_max_left _ _))) j (ready_mono hj hji)
      omega
  | succ f ih =>
    intro rows listed a inv hq hfree hr hfin H
    have hun := (mem_ready.1 hr).1
    refine ⟨fun h => (by rw [h] at hr; cases hr), fun j hj => ?_⟩
    have hjn : j < n' := by
      rcases Nat.lt_or_ge j n' with h | h
      · exact h
      · exact absurd hj (tail_waits hs hc hn inv _ i rfl hin hun j h)
    by_cases hji : j = i
    · subst hji
      exact .inr ⟨hni, hM, H⟩
    · obtain ⟨hjun, oj, hoj, hall⟩ := mem_ready.1 hj
      have hnj : n ≤ j := by
        rcases Nat.lt_or_ge j n with h | h
        · rw [hq j h] at hjun; cases hjun
        · exact h
      have hnot : ∀ e ∈ oj.after, Region.binds md e = true → e.on ≠ i := fun e he hb heq => by
        have h1 := hall e he hb
        rw [heq, getD_both hun] at h1
        cases h1
      obtain ⟨_, h2, _⟩ := Oper.apart_spec (hfree j oj hoj hji hjun hnot)
      have hfree' : ∀ k ok, ops[k]? = some ok → k ≠ i → (listed.setIfInBounds j true).getD k true = false →
          (∀ e ∈ ok.after, Region.binds md e = true → e.on ≠ i) → oi.apart ops ok = true := fun k ok hk hki hun hno => by
        refine hfree k ok hk hki ?_ hno
        by_cases hjk : j = k
        · subst hjk; exact hjun
        · rw [getD_set_ne true hjk] at hun; exact hun
      have part : ∀ g, w0.heap.size ≤ g → rows g = none → Maker P ops j (mk j).1 (mk j).2 ∧ ∀ g', w0.heap.size ≤ g' → updR rows g (mk i).2 g' = none →
          wpMk P md ops w0 n mk L f (updR (updR rows g (mk i).2) g' (mk j).2) ((listed.setIfInBounds i true).setIfInBounds j true) ((a.put (some (mk i).1) (ptrV g)).put (some (mk j).1) (ptrV g')) := fun g hg hr0 => by
        rcases (H g hg hr0).2 j (ready_mono hj hji) with ⟨h, _⟩ | ⟨_, hM', hK⟩
        · omega
        · exact ⟨hM', hK⟩
      obtain ⟨N, hN⟩ := hfin
      have hM' := (part (max N w0.heap.size) (Nat.le_max_right _ _) (hN _ (Nat.le_max_left _ _))).1
      have hdj : oj.dst = some (mk j).1 := by
        obtain ⟨o, ho, hd, _⟩ := hM'
        have : o = oj := Option.some.inj (ho.symm.trans hoj)
        rw [← this]
        exact hd
      refine .inr ⟨hnj, hM', fun g' hg' hr' => ?_⟩
      refine ih _ (listed.setIfInBounds j true) _ (inv.set hj hjn) (fun q hqn => ?_) hfree' (ready_mono hr (Ne.symm hji)) ⟨max N (g' + 1), fun g hg => ?_⟩ (fun g hg hr0 => ?_)
      · rw [getD_set_ne true (by omega)]
        exact hq q hqn
      · have h1 := Nat.le_max_left N (g' + 1)
        have h2 := Nat.le_max_right N (g' + 1)
        rw [updR_ne _ _ (by omega)]
        exact hN g (by omega)
      · have hne : g ≠ g' := fun e => by
          rw [e, updR_same] at hr0
          cases hr0
        rw [updR_ne _ _ hne] at hr0
        have := (part g hg hr0).2 g' hg' (by rw [updR_ne _ _ (Ne.symm hne)]; exact hr')
        rw [Array.setIfInBounds_comm _ _ hji, updR_comm _ _ _ (Ne.symm hne), ← Act.put_comm a (ptrV g) (ptrV g') (by rw [hdi, hdj] at h2; exact h2)]
        exact this

def mkTail (w0 : World) (mk : Nat → Nat × Obj) (Lf : (Nat → Option Obj) → Act → Prop) : Nat → Nat → (Nat → Option Obj) → Act → Prop
  | 0, _, rows, a => Lf rows a
  | m + 1, k, rows, a => ∀ g, w0.heap.size ≤ g → rows g = none → mkTail w0 mk Lf m (k + 1) (updR rows g (mk k).2) (a.put (some (mk k).1) (ptrV g))

theorem mk_lex_makers {w0 : World} {n n' g : Nat} {mk : Nat → Nat × Obj} {Lf : (Nat → Option Obj) → Act → Prop} (hmk : ∀ j, n ≤ j → j < n' → Maker P ops j (mk j).1 (mk j).2)
    (hs : Region.sinkB md ops n' = true) (hc : Region.chainB md ops n' = true) (hn : n' < ops.size) :
    ∀ (m k : Nat) (rows : Nat → Option Obj) (listed : Array Bool) (a : Act), k + m = n' → n ≤ k → HeadInv md ops n' listed → (∀ q, q < n → listed.getD q true = true) → (∃ N, ∀ g, N ≤ g → rows g = none) →
    Region.lexHead md ops g m k listed = true → mkTail w0 mk Lf m k rows a →
    wpMk P md ops w0 n mk (fun rows listed' a' => Region.seqB md ops g n' listed' = true ∧ Lf rows a') m rows listed a
  | 0, k, rows, listed, a, hk, _, _, _, _, hB, h => by
    have : k = n' := by omega
    subst this
    exact ⟨by simpa [Region.lexHead] using hB, h⟩
  | m + 1, k, rows, listed, a, hk, hnk, inv, hq, hfin, hB, h => by
    simp only [Region.lexHead, Bool.and_eq_true] at hB
    obtain ⟨⟨hr, hf⟩, hB'⟩ := hB
    have hr' : k ∈ Region.ready md ops listed := by simpa using hr
    obtain ⟨_, o, ho, _⟩ := mem_ready.1 hr'
    refine mk_first_maker (hmk k hnk (by omega)) ho hs hc hn hnk (by omega) (fun rows' listed' a' hL => seqB_ready hL.1) m rows listed a inv hq (Region.free_spec ho hf) hr' hfin ?_
    intro g' hg' hr0
    obtain ⟨N, hN⟩ := hfin
    refine mk_lex_makers hmk hs hc hn m (k + 1) _ _ _ (by omega) (by omega) (inv.set hr' (by omega)) (fun q hqn => ?_) ⟨max N (g' + 1), fun g hg => ?_⟩ hB' (h g' hg' hr0)
    · rw [getD_set_ne true (by omega)]
      exact hq q hqn
    · have h1 := Nat.le_max_left N (g' + 1)
      have h2 := Nat.le_max_right N (g' + 1)
      rw [updR_ne _ _ (by omega)]
      exact hN g (by omega)

theorem put_get_ne (a : Act) (x : Option Tmp) (d : Nat) (v : Value) (h : x ≠ some d) : (a.put x v).tmps[d]? = a.tmps[d]? := by
  cases x with
  | none => rfl
  | some e => simp [Act.put, Array.getElem?_setIfInBounds_ne (fun he : e = d => h (by rw [he]))]
theorem put_get_same (a : Act) (d : Nat) (v : Value) (h : d < a.tmps.size) : (a.put (some d) v).tmps[d]? = some v := by simp [Act.put, h]
theorem put_size (a : Act) (x : Option Tmp) (v : Value) : (a.put x v).tmps.size = a.tmps.size := by cases x <;> simp [Act.put]
/-- A slot that no operation writes is at the walk's end what it was. -/
theorem quiet_slot {C : World → Prop} {A : Act} {d : Nat} : ∀ (l : List Oper) (a : Act), wpQuiet P ops C (fun a' => a' = A) l a → (∀ o ∈ l, o.dst ≠ some d) → A.tmps[d]? = a.tmps[d]?
  | [], a, h, _ => by rw [show a = A from h]
  | o :: l, a, h, hd => by
    have h' : if Region.wanted o (yielded ops a.tmps) = true then o.quiet P a C (wpQuiet P ops C (fun a' => a' = A) l) else wpQuiet P ops C (fun a' => a' = A) l (a.put o.dst undef) := h
    have hl : ∀ x ∈ l, x.dst ≠ some d := fun x hx => hd x (List.mem_cons_of_mem _ hx)
    split at h'
    · obtain ⟨v, _, h2⟩ := h'
      rw [quiet_slot l _ h2 hl, put_get_ne _ _ _ _ (hd o List.mem_cons_self)]
    · rw [quiet_slot l _ h' hl, put_get_ne _ _ _ _ (hd o List.mem_cons_self)]
def dstB (sz : Nat) : List Oper → Bool
  | [] => true
  | o :: l => (match o.dst with | some d => decide (d < sz) && l.all (fun x => decide (x.dst ≠ some d)) | none => false) && dstB sz l

theorem mk_lex {w0 : World} {n n' g m : Nat} {mk : Nat → Nat × Obj} {A : Act} {Lf : (Nat → Option Obj) → Act → Prop} (hmk : ∀ j, n ≤ j → j < n' → Maker P ops j (mk j).1 (mk j).2) (hsel : Region.noSelect ops = true)
    (hs : Region.sinkB md ops n' = true) (hc : Region.chainB md ops n' = true) (hn : n' < ops.size) (hnm : n + m = n') (ht : mkTail w0 mk Lf m n (fun _ => none) A) :
    ∀ (l : List Oper) (k : Nat) (listed : Array Bool) (a : Act), (∀ j, j < l.length → l[j]? = ops[k + j]?) → k + l.length = n → HeadInv md ops n' listed → (∀ q, q < k → listed.getD q true = true) →
    Region.lexHead md ops g (l.length + m) k listed = true → dstB a.tmps.size l = true → (∀ p, Below w0.heap.size w0 p → wpQuiet P ops (BWc p) (fun a' => a' = A) l a) →
    wpMk P md ops w0 n mk (fun rows listed' a' => Region.seqB md ops g n' listed' = true ∧ Lf rows a') (l.length + m) (fun _ => none) listed a
  | [], k, listed, a, _, hk, inv, hq, hB, _, h => by
    have : k = n := by simpa using hk
    subst this
    have e : a = A := h w0 (Below.refl _ _)
    subst e
    rw [List.length_nil, Nat.zero_add] at hB ⊢
    exact mk_lex_makers hmk hs hc hn m k _ listed a hnm (Nat.le_refl _) inv hq ⟨0, fun _ _ => rfl⟩ hB ht
  | o :: l, k, listed, a, hl, hk, inv, hq, hB, hd, h => by
    have h0 : ops[k]? = some o := by simpa using (hl 0 (by simp)).symm
    rw [List.length_cons, show l.length + 1 + m = (l.length + m) + 1 by omega] at hB ⊢
    simp only [Region.lexHead, Bool.and_eq_true] at hB
    obtain ⟨⟨hr, hf⟩, hB'⟩ := hB
    have hkn : k < n := by simp only [List.length_cons] at hk; omega
    have hr' : k ∈ Region.ready md ops listed := by simpa using hr
    simp only [dstB, Bool.and_eq_true] at hd
    obtain ⟨hd1, hd2⟩ := hd
    cases hdst : o.dst with
    | none => rw [hdst] at hd1; cases hd1
    | some d =>
      rw [hdst] at hd1
      simp only [Bool.and_eq_true, decide_eq_true_eq, List.all_eq_true] at hd1
      obtain ⟨hsz, hno⟩ := hd1
      have key : ∀ p, Below w0.heap.size w0 p → YieldsIn P ops (BWc p) o (A.tmps.getD d undef) a ∧ wpQuiet P ops (BWc p) (fun a' => a' = A) l (a.put (some d) (A.tmps.getD d undef)) := fun p hp => by
        have h' : if Region.wanted o (yielded ops a.tmps) = true then o.quiet P a (BWc p) (wpQuiet P ops (BWc p) (fun a' => a' = A) l) else wpQuiet P ops (BWc p) (fun a' => a' = A) l (a.put o.dst undef) := h p hp
        have val : ∀ v, wpQuiet P ops (BWc p) (fun a' => a' = A) l (a.put (some d) v) → v = A.tmps.getD d undef := fun v hv => by
          have := quiet_slot l _ hv hno
          rw [put_get_same _ _ _ hsz] at this
          rw [Array.getD_eq_getD_getElem?, this]
          rfl
        split at h'
        · rename_i hw
          obtain ⟨v, h1, h2⟩ := h'
          rw [hdst] at h2
          have e := val v h2
          rw [← e]
          exact ⟨.inl ⟨hw, h1⟩, h2⟩
        · rename_i hw
          rw [hdst] at h'
          have e := val undef h'
          rw [← e]
          exact ⟨.inr ⟨by simpa using hw, rfl⟩, h'⟩
      refine mk_first_quiet h0 (Region.noSelect_spec hsel) hs hc hn hkn (by omega) (fun rows' listed' a' hL => seqB_ready hL.1) (l.length + m) _ listed a inv (Region.free_spec h0 hf) hr' (fun p hp => (key p hp).1) ?_
      rw [hdst]
      refine mk_lex hmk hsel hs hc hn hnm ht l (k + 1) _ _ (fun j hj => by have := hl (j + 1) (by simp; omega); simpa [Nat.add_assoc, Nat.add_comm 1 j] using this) (by simp only [List.length_cons] at hk; omega) (inv.set hr' (by omega)) (fun q hqk => ?_) hB' (by rw [put_size]; exact hd2) (fun p hp => (key p hp).2)
      by_cases e : k = q
      · subst e
        have : k < listed.size := by rw [inv.size]; omega
        simp [this]
      · rw [getD_set_ne true e]
        exact hq q (by omega)

/-- THE LAW: n quiet operations, then m that each make a variable, then the tail. -/
theorem wp_region_makes {id : Nat} {Q : Exit → Act → World → Prop} {a : Act} {w : World} {l : List Oper} (n m : Nat) (mk : Nat → Nat × Obj) (hm : P.follows .mixedOrders = true) (hB : Region.lexTailB .any l.toArray (n + m) = true)
    (hd : dstB a.tmps.size (l.take n) = true) (hmk : ∀ j, n ≤ j → j < n + m → Maker P l.toArray j (mk j).1 (mk j).2)
    (h : ∃ A, (∀ p, Below w.heap.size w p → wpQuiet P l.toArray (fun w' => ∃ q : BW p, w' = q.1) (fun a' => a' = A) (l.take n) a) ∧
      mkTail w mk (fun rows a' => ∀ w', Below w.heap.size w w' → Holds rows w' → wpList P l.toArray Q (l.drop (n + m)) a' w') m n (fun _ => none) A) : (Code.region id l.toArray true).wp P Q a w := by
  obtain ⟨A, hq, ht⟩ := h
  simp only [Region.lexTailB, Bool.and_eq_true, decide_eq_true_eq] at hB
  obtain ⟨⟨⟨⟨hsel, hn⟩, hs⟩, hc⟩, hlex⟩ := hB
  have hn' : n + m < l.length := by simpa using hn
  have htl : (l.take n).length = n := by simp; omega
  have hdl : (l.drop (n + m)).length = l.toArray.size - (n + m) := by simp
  have inv0 : HeadInv .any l.toArray (n + m) (Array.replicate l.toArray.size false) :=
    ⟨by simp, fun j oj _ hl => (by rw [getD_replicate_false] at hl; cases hl), fun t _ ht => getD_in (by simpa using ht) (getD_replicate_false _ _)⟩
  have H := mk_lex (P := P) (md := .any) (g := l.toArray.size - (n + m)) hmk hsel hs hc hn rfl ht (l.take n) 0 _ a (fun j hj => by
    have hj' : j < n := by rw [htl] at hj; exact hj
    simp [hj']) (by simpa using htl) inv0 (fun q hq => absurd hq (Nat.not_lt_zero q)) (by rw [htl]; exact hlex) hd hq
  refine wp_region_any hm ?_
  have := wpAny_of_mk (Q' := Q) (g := l.toArray.size - (n + m)) (fun rows listed a' w' hb' hh' hL => by
    have := wpAny_of_seq (md := .any) (Q' := Q) (l.drop (n + m)) (n + m) listed a' w' (fun j => by simp [List.getElem?_drop]) (by rw [hdl]; exact hL.1) (hL.2 w' hb' hh')
    rwa [hdl] at this) _ _ _ _ w.drew (Below.refl _ _).drew (fun g o h => by cases h) H
  rw [htl, show n + m + (l.toArray.size - (n + m)) = l.toArray.size by omega] at this
  exact this
end
end MS

/-
  fe.Invert: the walk.
-/
namespace Go.Proofs.Ythlmphloalbhnaa
open Go.RowKit MS

theorem rw_add {w0 w : World} {l : List Blk} (h : Rw w0 l w) {g : Nat} {cs : Array Value} {T : TypeId} (hne : ∀ r ∈ l, r.1 ≠ g) (hg : w0.heap.size ≤ g) (hr : w.heap[g]? = some (.cells cs T (0, 0))) : Rw w0 (l ++ [(g, cs, T)]) w := by
  refine ⟨?_, ?_, ?_, h.bel⟩
  · rw [List.map_append, List.nodup_append]
    refine ⟨h.nd, by simp, ?_⟩
    intro a ha b hb
    obtain ⟨r, hr, rfl⟩ := List.mem_map.1 ha
    simp only [List.map_cons, List.map_nil, List.mem_singleton] at hb
    rw [hb]
    exact hne r hr
  · intro r hr
    rcases List.mem_append.1 hr with h1 | h1
    · exact h.ge r h1
    · rw [List.mem_singleton.1 h1]; exact hg
  · intro r hr'
    rcases List.mem_append.1 hr' with h1 | h1
    · exact h.rows r h1
    · rw [List.mem_singleton.1 h1]; exact hr
/-- A variable made in a region that draws. -/
theorem rw_made {w0 w w' : World} {l : List Blk} (h : Rw w0 l w) {g : Nat} {cs : Array Value} {T : TypeId} (hb : Below w.heap.size w w') (hg : w.heap.size ≤ g) (hr : w'.heap[g]? = some (.cells cs T (0, 0))) : Rw w0 (l ++ [(g, cs, T)]) w' :=
  rw_add (h.on hb) (fun r hr => by have := h.lt r hr; omega) (Nat.le_trans h.bel.size hg) hr

set_option maxRecDepth 1000000 in
set_option maxHeartbeats 4000000 in
theorem feinvert_any (a : N5) (ha : a.ok) (w : World) :
    Calls Try.prog 28 #[.agg (nvA a)] w fun e w' => e = .returned (.agg (nvA (invN a))) ∧ Below w.heap.size w w' := by
  obtain ⟨p2, ep2⟩ : ∃ x, x = mul a a := ⟨_, rfl⟩
  have hp2 : p2.ok := by rw [ep2]; exact mul_ok ha ha
  obtain ⟨sp9, esp9⟩ : ∃ x, x = sqs p2 2 := ⟨_, rfl⟩
  have hsp9 : sp9.ok := by rw [esp9]; exact sqs_ok hp2 2
  obtain ⟨p9, ep9⟩ : ∃ x, x = mul sp9 a := ⟨_, rfl⟩
  have hp9 : p9.ok := by rw [ep9]; exact mul_ok hsp9 ha
  obtain ⟨p11, ep11⟩ : ∃ x, x = mul p9 p2 := ⟨_, rfl⟩
  have hp11 : p11.ok := by rw [ep11]; exact mul_ok hp9 hp2
  obtain ⟨so5, eso5⟩ : ∃ x, x = sqs p11 1 := ⟨_, rfl⟩
  have hso5 : so5.ok := by rw [eso5]; exact sqs_ok hp11 1
  obtain ⟨o5, eo5⟩ : ∃ x, x = mul so5 p9 := ⟨_, rfl⟩
  have ho5 : o5.ok := by rw [eo5]; exact mul_ok hso5 hp9
  obtain ⟨so10, eso10⟩ : ∃ x, x = sqs o5 5 := ⟨_, rfl⟩
  have hso10 : so10.ok := by rw [eso10]; exact sqs_ok ho5 5
  obtain ⟨o10, eo10⟩ : ∃ x, x = mul so10 o5 := ⟨_, rfl⟩
  have ho10 : o10.ok := by rw [eo10]; exact mul_ok hso10 ho5
  obtain ⟨so20, eso20⟩ : ∃ x, x = sqs o10 10 := ⟨_, rfl⟩
  have hso20 : so20.ok := by rw [eso20]; exact sqs_ok ho10 10
  obtain ⟨o20, eo20⟩ : ∃ x, x = mul so20 o10 := ⟨_, rfl⟩
  have ho20 : o20.ok := by rw [eo20]; exact mul_ok hso20 ho10
  obtain ⟨so40, eso40⟩ : ∃ x, x = sqs o20 20 := ⟨_, rfl⟩
  have hso40 : so40.ok := by rw [eso40]; exact sqs_ok ho20 20
  obtain ⟨o40, eo40⟩ : ∃ x, x = mul so40 o20 := ⟨_, rfl⟩
  have ho40 : o40.ok := by rw [eo40]; exact mul_ok hso40 ho20
  obtain ⟨so50, eso50⟩ : ∃ x, x = sqs o40 10 := ⟨_, rfl⟩
  have hso50 : so50.ok := by rw [eso50]; exact sqs_ok ho40 10
  obtain ⟨o50, eo50⟩ : ∃ x, x = mul so50 o10 := ⟨_, rfl⟩
  have ho50 : o50.ok := by rw [eo50]; exact mul_ok hso50 ho10
  obtain ⟨so100, eso100⟩ : ∃ x, x = sqs o50 50 := ⟨_, rfl⟩
  have hso100 : so100.ok := by rw [eso100]; exact sqs_ok ho50 50
  obtain ⟨o100, eo100⟩ : ∃ x, x = mul so100 o50 := ⟨_, rfl⟩
  have ho100 : o100.ok := by rw [eo100]; exact mul_ok hso100 ho50
  obtain ⟨so200, eso200⟩ : ∃ x, x = sqs o100 100 := ⟨_, rfl⟩
  have hso200 : so200.ok := by rw [eso200]; exact sqs_ok ho100 100
  obtain ⟨o200, eo200⟩ : ∃ x, x = mul so200 o100 := ⟨_, rfl⟩
  have ho200 : o200.ok := by rw [eo200]; exact mul_ok hso200 ho100
  obtain ⟨so250, eso250⟩ : ∃ x, x = sqs o200 50 := ⟨_, rfl⟩
  have hso250 : so250.ok := by rw [eso250]; exact sqs_ok ho200 50
  obtain ⟨o250, eo250⟩ : ∃ x, x = mul so250 o50 := ⟨_, rfl⟩
  have ho250 : o250.ok := by rw [eo250]; exact mul_ok hso250 ho50
  obtain ⟨sR, esR⟩ : ∃ x, x = sqs o250 5 := ⟨_, rfl⟩
  have hsR : sR.ok := by rw [esR]; exact sqs_ok ho250 5
  obtain ⟨R, eR⟩ : ∃ x, x = mul sR p11 := ⟨_, rfl⟩
  have hR : R.ok := by rw [eR]; exact mul_ok hsR hp11
  have eR0 : invN a = R := by subst eR esR eo250 eso250 eo200 eso200 eo100 eso100 eo50 eso50 eo40 eso40 eo20 eso20 eo10 eso10 eo5 eso5 ep11 ep9 esp9 ep2; rfl
  rw [eR0]
  have Mp2 := Lib.hid (fun w => femul_any a a ha ha w)
  rw [← ep2] at Mp2
  have Sp9 := Lib.hid (fun w => squares_any p2 2 hp2 (by decide) w)
  rw [← esp9, show ((2 : Nat) : Int) = 2 from rfl] at Sp9
  have Mp9 := Lib.hid (fun w => femul_any sp9 a hsp9 ha w)
  rw [← ep9] at Mp9
  have Mp11 := Lib.hid (fun w => femul_any p9 p2 hp9 hp2 w)
  rw [← ep11] at Mp11
  have So5 := Lib.hid (fun w => squares_any p11 1 hp11 (by decide) w)
  rw [← eso5, show ((1 : Nat) : Int) = 1 from rfl] at So5
  have Mo5 := Lib.hid (fun w => femul_any so5 p9 hso5 hp9 w)
  rw [← eo5] at Mo5
  have So10 := Lib.hid (fun w => squares_any o5 5 ho5 (by decide) w)
  rw [← eso10, show ((5 : Nat) : Int) = 5 from rfl] at So10
  have Mo10 := Lib.hid (fun w => femul_any so10 o5 hso10 ho5 w)
  rw [← eo10] at Mo10
  have So20 := Lib.hid (fun w => squares_any o10 10 ho10 (by decide) w)
  rw [← eso20, show ((10 : Nat) : Int) = 10 from rfl] at So20
  have Mo20 := Lib.hid (fun w => femul_any so20 o10 hso20 ho10 w)
  rw [← eo20] at Mo20
  have So40 := Lib.hid (fun w => squares_any o20 20 ho20 (by decide) w)
  rw [← eso40, show ((20 : Nat) : Int) = 20 from rfl] at So40
  have Mo40 := Lib.hid (fun w => femul_any so40 o20 hso40 ho20 w)
  rw [← eo40] at Mo40
  have So50 := Lib.hid (fun w => squares_any o40 10 ho40 (by decide) w)
  rw [← eso50, show ((10 : Nat) : Int) = 10 from rfl] at So50
  have Mo50 := Lib.hid (fun w => femul_any so50 o10 hso50 ho10 w)
  rw [← eo50] at Mo50
  have So100 := Lib.hid (fun w => squares_any o50 50 ho50 (by decide) w)
  rw [← eso100, show ((50 : Nat) : Int) = 50 from rfl] at So100
  have Mo100 := Lib.hid (fun w => femul_any so100 o50 hso100 ho50 w)
  rw [← eo100] at Mo100
  have So200 := Lib.hid (fun w => squares_any o100 100 ho100 (by decide) w)
  rw [← eso200, show ((100 : Nat) : Int) = 100 from rfl] at So200
  have Mo200 := Lib.hid (fun w => femul_any so200 o100 hso200 ho100 w)
  rw [← eo200] at Mo200
  have So250 := Lib.hid (fun w => squares_any o200 50 ho200 (by decide) w)
  rw [← eso250, show ((50 : Nat) : Int) = 50 from rfl] at So250
  have Mo250 := Lib.hid (fun w => femul_any so250 o50 hso250 ho50 w)
  rw [← eo250] at Mo250
  have SR := Lib.hid (fun w => squares_any o250 5 ho250 (by decide) w)
  rw [← esR, show ((5 : Nat) : Int) = 5 from rfl] at SR
  have MR := Lib.hid (fun w => femul_any sR p11 hsR hp11 w)
  rw [← eR] at MR
  have Ia := Lib.hid (infoV a)
  have Oa := Lib.hid (one_nvA a)
  have La := Lib.hid (show (#[.int .u64 0, .int .u64 0, .int .u64 0, .int .u64 0, .int .u64 0] : Array Value).size = (nvA a).size from rfl)
  have Ip2 := Lib.hid (infoV p2)
  have Op2 := Lib.hid (one_nvA p2)
  have Lp2 := Lib.hid (show (#[.int .u64 0, .int .u64 0, .int .u64 0, .int .u64 0, .int .u64 0] : Array Value).size = (nvA p2).size from rfl)
  have Ip9 := Lib.hid (infoV p9)
  have Op9 := Lib.hid (one_nvA p9)
  have Lp9 := Lib.hid (show (#[.int .u64 0, .int .u64 0, .int .u64 0, .int .u64 0, .int .u64 0] : Array Value).size = (nvA p9).size from rfl)
  have Ip11 := Lib.hid (infoV p11)
  have Op11 := Lib.hid (one_nvA p11)
  have Lp11 := Lib.hid (show (#[.int .u64 0, .int .u64 0, .int .u64 0, .int .u64 0, .int .u64 0] : Array Value).size = (nvA p11).size from rfl)
  have Io5 := Lib.hid (infoV o5)
  have Oo5 := Lib.hid (one_nvA o5)
  have Lo5 := Lib.hid (show (#[.int .u64 0, .int .u64 0, .int .u64 0, .int .u64 0, .int .u64 0] : Array Value).size = (nvA o5).size from rfl)
  have Io10 := Lib.hid (infoV o10)
  have Oo10 := Lib.hid (one_nvA o10)
  have Lo10 := Lib.hid (show (#[.int .u64 0, .int .u64 0, .int .u64 0, .int .u64 0, .int .u64 0] : Array Value).size = (nvA o10).size from rfl)
  have Io20 := Lib.hid (infoV o20)
  have Oo20 := Lib.hid (one_nvA o20)
  have Lo20 := Lib.hid (show (#[.int .u64 0, .int .u64 0, .int .u64 0, .int .u64 0, .int .u64 0] : Array Value).size = (nvA o20).size from rfl)
  have Io40 := Lib.hid (infoV o40)
  have Oo40 := Lib.hid (one_nvA o40)
  have Lo40 := Lib.hid (show (#[.int .u64 0, .int .u64 0, .int .u64 0, .int .u64 0, .int .u64 0] : Array Value).size = (nvA o40).size from rfl)
  have Io50 := Lib.hid (infoV o50)
  have Oo50 := Lib.hid (one_nvA o50)
  have Lo50 := Lib.hid (show (#[.int .u64 0, .int .u64 0, .int .u64 0, .int .u64 0, .int .u64 0] : Array Value).size = (nvA o50).size from rfl)
  have Io100 := Lib.hid (infoV o100)
  have Oo100 := Lib.hid (one_nvA o100)
  have Lo100 := Lib.hid (show (#[.int .u64 0, .int .u64 0, .int .u64 0, .int .u64 0, .int .u64 0] : Array Value).size = (nvA o100).size from rfl)
  have Io200 := Lib.hid (infoV o200)
  have Oo200 := Lib.hid (one_nvA o200)
  have Lo200 := Lib.hid (show (#[.int .u64 0, .int .u64 0, .int .u64 0, .int .u64 0, .int .u64 0] : Array Value).size = (nvA o200).size from rfl)
  have Io250 := Lib.hid (infoV o250)
  have Oo250 := Lib.hid (one_nvA o250)
  have Lo250 := Lib.hid (show (#[.int .u64 0, .int .u64 0, .int .u64 0, .int .u64 0, .int .u64 0] : Array Value).size = (nvA o250).size from rfl)
  have IR := Lib.hid (infoV R)
  have OR := Lib.hid (one_nvA R)
  have LR := Lib.hid (show (#[.int .u64 0, .int .u64 0, .int .u64 0, .int .u64 0, .int .u64 0] : Array Value).size = (nvA R).size from rfl)
  have R0 := Lib.hid (show Rw w [(w.heap.size, nvA a, 24), (w.heap.size + 1, #[.int .u64 0, .int .u64 0, .int .u64 0, .int .u64 0, .int .u64 0], 24)] ((w.alloc (.cells (nvA a) 24 (0, 0))).alloc (.cells #[.int .u64 0, .int .u64 0, .int .u64 0, .int .u64 0, .int .u64 0] 24 (0, 0))) from rw2 w (nvA a) #[.int .u64 0, .int .u64 0, .int .u64 0, .int .u64 0, .int .u64 0])
  clear ep2 ep9 ep11 eo5 eo10 eo20 eo40 eo50 eo100 eo200 eo250 eR esp9 eso5 eso10 eso20 eso40 eso50 eso100 eso200 eso250 esR eR0
  generalize nvA R = rR at *
  generalize nvA sR = rsR at *
  generalize nvA o250 = ro250 at *
  generalize nvA so250 = rso250 at *
  generalize nvA o200 = ro200 at *
  generalize nvA so200 = rso200 at *
  generalize nvA o100 = ro100 at *
  generalize nvA so100 = rso100 at *
  generalize nvA o50 = ro50 at *
  generalize nvA so50 = rso50 at *
  generalize nvA o40 = ro40 at *
  generalize nvA so40 = rso40 at *
  generalize nvA o20 = ro20 at *
  generalize nvA so20 = rso20 at *
  generalize nvA o10 = ro10 at *
  generalize nvA so10 = rso10 at *
  generalize nvA o5 = ro5 at *
  generalize nvA so5 = rso5 at *
  generalize nvA p11 = rp11 at *
  generalize nvA p9 = rp9 at *
  generalize nvA sp9 = rsp9 at *
  generalize nvA p2 = rp2 at *
  generalize nvA a = ra at *
  clear hp2 hp9 hp11 ho5 ho10 ho20 ho40 ho50 ho100 ho200 ho250 hR hsp9 hso5 hso10 hso20 hso40 hso50 hso100 hso200 hso250 hsR ha
  go_enter Try.func28, Try.ntmps28
  go_upto_region 1 with fail
  generalize (w.alloc (.cells ra 24 (0, 0))).alloc (.cells #[.int .u64 0, .int .u64 0, .int .u64 0, .int .u64 0, .int .u64 0] 24 (0, 0)) = W0 at R0 ⊢
  generalize w.heap.size + 1 = gR at *
  generalize w.heap.size = ga at R0 ⊢
  have RX := Lib.hid (R0.out.row 0)
  have RY := Lib.hid (R0.out.row 0)
  go_wp2_with (first
    | (with_reducible refine wpList_load_row rfl 24 (.tmp 1) rfl ga rfl 24 ra (0, 0) _ RX.out Try.underlying24 rfl Ia.out ?_)
    | (with_reducible refine wpList_load_row rfl 24 (.tmp 1) rfl ga rfl 24 ra (0, 0) _ RY.out Try.underlying24 rfl Ia.out ?_))
  refine (Mp2.out _).mono ?_
  rintro e w1 ⟨rfl, hb⟩
  have RA := Lib.hid ((R0.out.on hb).alloc #[.int .u64 0, .int .u64 0, .int .u64 0, .int .u64 0, .int .u64 0] 24)
  have RB := Lib.hid (RA.out.store 2 rp2)
  have RC := Lib.hid (RA.out.row 2)
  clear hb RX RY R0
  go_upto_region 2 with (with_reducible refine wpList_store_row rfl 24 (.tmp 3) (.tmp 16) rfl w1.heap.size rp2 rfl rfl 24 #[.int .u64 0, .int .u64 0, .int .u64 0, .int .u64 0, .int .u64 0] RC.out Ip2.out Lp2.out Op2.out ?_)
  simp only [Act.put]
  clear RA RC
  have R1 := Lib.hid (show Rw w [(ga, ra, 24), (gR, #[.int .u64 0, .int .u64 0, .int .u64 0, .int .u64 0, .int .u64 0], 24), (w1.heap.size, rp2, 24)] _ from RB.out)
  clear RB
  generalize (w1.alloc (.cells #[.int .u64 0, .int .u64 0, .int .u64 0, .int .u64 0, .int .u64 0] 24 (0, 0))).setRow w1.heap.size rp2 = W1 at R1 ⊢
  generalize w1.heap.size = gp2 at R1 ⊢
  refine wp_region_makes 4 1 (fun _ => (4, .cells #[.int .u64 0, .int .u64 0, .int .u64 0, .int .u64 0, .int .u64 0] 24 (0, 0))) (by kernel_rfl) (by kernel_rfl) (by rfl) ?hmk ?h
  case hmk =>
    intro j h1 h2
    obtain rfl : j = 4 := by omega
    exact ⟨_, rfl, rfl, fun _ => rfl, fun _ _ => by go_simp⟩
  apply Exists.intro
  refine ⟨?_, ?_⟩
  · intro p hp
    have RP := Lib.hid (R1.out.on hp)
    simp only [List.take_succ_cons, List.take_zero]
    go_big_quiet_want
    refine quiet_load_row 24 (.tmp 3) (by rfl) gp2 (by rfl) 24 rp2 (0, 0) _ ?hC1 Try.underlying24 rfl Ip2.out ?_
    case hC1 => rintro w' ⟨q, rfl⟩; exact (RP.out.on q.2).row 2
    simp only [Act.put, List.setIfInBounds_toArray, List.set_cons_zero, List.set_cons_succ]
    go_big_quiet_on
    go_big_quiet_step (exact calls_below (Sp9.out _))
    go_big_quiet_want
    refine quiet_load_row 24 (.tmp 1) (by rfl) ga (by rfl) 24 ra (0, 0) _ ?hC2 Try.underlying24 rfl Ia.out ?_
    case hC2 => rintro w' ⟨q, rfl⟩; exact (RP.out.on q.2).row 0
    simp only [Act.put, List.setIfInBounds_toArray, List.set_cons_zero, List.set_cons_succ]
    go_big_quiet_on
    go_big_quiet_step (exact calls_below (Mp9.out _))
    exact wpQuiet_nil rfl
  intro gp9 hg _ w2 hb hr
  have RA := Lib.hid (rw_made R1.out hb hg (hr gp9 _ (updR_same _ _ _)))
  have RB := Lib.hid (RA.out.store 3 rp9)
  have RC := Lib.hid (RA.out.row 3)
  clear hb hg hr R1
  simp only [List.drop_succ_cons, List.drop_zero, Act.put, List.setIfInBounds_toArray, List.set_cons_zero, List.set_cons_succ]
  go_upto_region 3 with (with_reducible refine wpList_store_row rfl 24 (.tmp 4) (.tmp 20) rfl gp9 rp9 rfl rfl 24 #[.int .u64 0, .int .u64 0, .int .u64 0, .int .u64 0, .int .u64 0] RC.out Ip9.out Lp9.out Op9.out ?_)
  clear RA RC
  have R2 := Lib.hid (show Rw w [(ga, ra, 24), (gR, #[.int .u64 0, .int .u64 0, .int .u64 0, .int .u64 0, .int .u64 0], 24), (gp2, rp2, 24), (gp9, rp9, 24)] _ from RB.out)
  clear RB
  generalize w2.setRow gp9 rp9 = W2 at R2 ⊢
  have RX := Lib.hid (R2.out.row 3)
  have RY := Lib.hid (R2.out.row 2)
  go_wp2_with (first
    | (with_reducible refine wpList_load_row rfl 24 (.tmp 4) rfl gp9 rfl 24 rp9 (0, 0) _ RX.out Try.underlying24 rfl Ip9.out ?_)
    | (with_reducible refine wpList_load_row rfl 24 (.tmp 3) rfl gp2 rfl 24 rp2 (0, 0) _ RY.out Try.underlying24 rfl Ip2.out ?_))
  refine (Mp11.out _).mono ?_
  rintro e w3 ⟨rfl, hb⟩
  have RA := Lib.hid ((R2.out.on hb).alloc #[.int .u64 0, .int .u64 0, .int .u64 0, .int .u64 0, .int .u64 0] 24)
  have RB := Lib.hid (RA.out.store 4 rp11)
  have RC := Lib.hid (RA.out.row 4)
  clear hb RX RY R2
  go_upto_region 4 with (with_reducible refine wpList_store_row rfl 24 (.tmp 5) (.tmp 23) rfl w3.heap.size rp11 rfl rfl 24 #[.int .u64 0, .int .u64 0, .int .u64 0, .int .u64 0, .int .u64 0] RC.out Ip11.out Lp11.out Op11.out ?_)
  simp only [Act.put]
  clear RA RC
  have R3 := Lib.hid (show Rw w [(ga, ra, 24), (gR, #[.int .u64 0, .int .u64 0, .int .u64 0, .int .u64 0, .int .u64 0], 24), (gp2, rp2, 24), (gp9, rp9, 24), (w3.heap.size, rp11, 24)] _ from RB.out)
  clear RB
  generalize (w3.alloc (.cells #[.int .u64 0, .int .u64 0, .int .u64 0, .int .u64 0, .int .u64 0] 24 (0, 0))).setRow w3.heap.size rp11 = W3 at R3 ⊢
  generalize w3.heap.size = gp11 at R3 ⊢
  refine wp_region_makes 4 1 (fun _ => (6, .cells #[.int .u64 0, .int .u64 0, .int .u64 0, .int .u64 0, .int .u64 0] 24 (0, 0))) (by kernel_rfl) (by kernel_rfl) (by rfl) ?hmk ?h
  case hmk =>
    intro j h1 h2
    obtain rfl : j = 4 := by omega
    exact ⟨_, rfl, rfl, fun _ => rfl, fun _ _ => by go_simp⟩
  apply Exists.intro
  refine ⟨?_, ?_⟩
  · intro p hp
    have RP := Lib.hid (R3.out.on hp)
    simp only [List.take_succ_cons, List.take_zero]
    go_big_quiet_want
    refine quiet_load_row 24 (.tmp 5) (by rfl) gp11 (by rfl) 24 rp11 (0, 0) _ ?hC1 Try.underlying24 rfl Ip11.out ?_
    case hC1 => rintro w' ⟨q, rfl⟩; exact (RP.out.on q.2).row 4
    simp only [Act.put, List.setIfInBounds_toArray, List.set_cons_zero, List.set_cons_succ]
    go_big_quiet_on
    go_big_quiet_step (exact calls_below (So5.out _))
    go_big_quiet_want
    refine quiet_load_row 24 (.tmp 4) (by rfl) gp9 (by rfl) 24 rp9 (0, 0) _ ?hC2 Try.underlying24 rfl Ip9.out ?_
    case hC2 => rintro w' ⟨q, rfl⟩; exact (RP.out.on q.2).row 3
    simp only [Act.put, List.setIfInBounds_toArray, List.set_cons_zero, List.set_cons_succ]
    go_big_quiet_on
    go_big_quiet_step (exact calls_below (Mo5.out _))
    exact wpQuiet_nil rfl
  intro go5 hg _ w4 hb hr
  have RA := Lib.hid (rw_made R3.out hb hg (hr go5 _ (updR_same _ _ _)))
  have RB := Lib.hid (RA.out.store 5 ro5)
  have RC := Lib.hid (RA.out.row 5)
  clear hb hg hr R3
  simp only [List.drop_succ_cons, List.drop_zero, Act.put, List.setIfInBounds_toArray, List.set_cons_zero, List.set_cons_succ]
  go_upto_region 5 with (with_reducible refine wpList_store_row rfl 24 (.tmp 6) (.tmp 27) rfl go5 ro5 rfl rfl 24 #[.int .u64 0, .int .u64 0, .int .u64 0, .int .u64 0, .int .u64 0] RC.out Io5.out Lo5.out Oo5.out ?_)
  simp only [Act.put]
  clear RA RC
  have R4 := Lib.hid (show Rw w [(ga, ra, 24), (gR, #[.int .u64 0, .int .u64 0, .int .u64 0, .int .u64 0, .int .u64 0], 24), (gp2, rp2, 24), (gp9, rp9, 24), (gp11, rp11, 24), (go5, ro5, 24)] _ from RB.out)
  clear RB
  generalize w4.setRow go5 ro5 = W4 at R4 ⊢
  refine wp_region_makes 4 1 (fun _ => (7, .cells #[.int .u64 0, .int .u64 0, .int .u64 0, .int .u64 0, .int .u64 0] 24 (0, 0))) (by kernel_rfl) (by kernel_rfl) (by rfl) ?hmk ?h
  case hmk =>
    intro j h1 h2
    obtain rfl : j = 4 := by omega
    exact ⟨_, rfl, rfl, fun _ => rfl, fun _ _ => by go_simp⟩
  apply Exists.intro
  refine ⟨?_, ?_⟩
  · intro p hp
    have RP := Lib.hid (R4.out.on hp)
    simp only [List.take_succ_cons, List.take_zero]
    go_big_quiet_want
    refine quiet_load_row 24 (.tmp 6) (by rfl) go5 (by rfl) 24 ro5 (0, 0) _ ?hC1 Try.underlying24 rfl Io5.out ?_
    case hC1 => rintro w' ⟨q, rfl⟩; exact (RP.out.on q.2).row 5
    simp only [Act.put, List.setIfInBounds_toArray, List.set_cons_zero, List.set_cons_succ]
    go_big_quiet_on
    go_big_quiet_step (exact calls_below (So10.out _))
    go_big_quiet_want
    refine quiet_load_row 24 (.tmp 6) (by rfl) go5 (by rfl) 24 ro5 (0, 0) _ ?hC2 Try.underlying24 rfl Io5.out ?_
    case hC2 => rintro w' ⟨q, rfl⟩; exact (RP.out.on q.2).row 5
    simp only [Act.put, List.setIfInBounds_toArray, List.set_cons_zero, List.set_cons_succ]
    go_big_quiet_on
    go_big_quiet_step (exact calls_below (Mo10.out _))
    exact wpQuiet_nil rfl
  intro go10 hg _ w5 hb hr
  have RA := Lib.hid (rw_made R4.out hb hg (hr go10 _ (updR_same _ _ _)))
  have RB := Lib.hid (RA.out.store 6 ro10)
  have RC := Lib.hid (RA.out.row 6)
  clear hb hg hr R4
  simp only [List.drop_succ_cons, List.drop_zero, Act.put, List.setIfInBounds_toArray, List.set_cons_zero, List.set_cons_succ]
  go_upto_region 6 with (with_reducible refine wpList_store_row rfl 24 (.tmp 7) (.tmp 31) rfl go10 ro10 rfl rfl 24 #[.int .u64 0, .int .u64 0, .int .u64 0, .int .u64 0, .int .u64 0] RC.out Io10.out Lo10.out Oo10.out ?_)
  simp only [Act.put]
  clear RA RC
  have R5 := Lib.hid (show Rw w [(ga, ra, 24), (gR, #[.int .u64 0, .int .u64 0, .int .u64 0, .int .u64 0, .int .u64 0], 24), (gp2, rp2, 24), (gp9, rp9, 24), (gp11, rp11, 24), (go5, ro5, 24), (go10, ro10, 24)] _ from RB.out)
  clear RB
  generalize w5.setRow go10 ro10 = W5 at R5 ⊢
  refine wp_region_makes 4 1 (fun _ => (8, .cells #[.int .u64 0, .int .u64 0, .int .u64 0, .int .u64 0, .int .u64 0] 24 (0, 0))) (by kernel_rfl) (by kernel_rfl) (by rfl) ?hmk ?h
  case hmk =>
    intro j h1 h2
    obtain rfl : j = 4 := by omega
    exact ⟨_, rfl, rfl, fun _ => rfl, fun _ _ => by go_simp⟩
  apply Exists.intro
  refine ⟨?_, ?_⟩
  · intro p hp
    have RP := Lib.hid (R5.out.on hp)
    simp only [List.take_succ_cons, List.take_zero]
    go_big_quiet_want
    refine quiet_load_row 24 (.tmp 7) (by rfl) go10 (by rfl) 24 ro10 (0, 0) _ ?hC1 Try.underlying24 rfl Io10.out ?_
    case hC1 => rintro w' ⟨q, rfl⟩; exact (RP.out.on q.2).row 6
    simp only [Act.put, List.setIfInBounds_toArray, List.set_cons_zero, List.set_cons_succ]
    go_big_quiet_on
    go_big_quiet_step (exact calls_below (So20.out _))
    go_big_quiet_want
    refine quiet_load_row 24 (.tmp 7) (by rfl) go10 (by rfl) 24 ro10 (0, 0) _ ?hC2 Try.underlying24 rfl Io10.out ?_
    case hC2 => rintro w' ⟨q, rfl⟩; exact (RP.out.on q.2).row 6
    simp only [Act.put, List.setIfInBounds_toArray, List.set_cons_zero, List.set_cons_succ]
    go_big_quiet_on
    go_big_quiet_step (exact calls_below (Mo20.out _))
    exact wpQuiet_nil rfl
  intro go20 hg _ w6 hb hr
  have RA := Lib.hid (rw_made R5.out hb hg (hr go20 _ (updR_same _ _ _)))
  have RB := Lib.hid (RA.out.store 7 ro20)
  have RC := Lib.hid (RA.out.row 7)
  clear hb hg hr R5
  simp only [List.drop_succ_cons, List.drop_zero, Act.put, List.setIfInBounds_toArray, List.set_cons_zero, List.set_cons_succ]
  go_upto_region 7 with (with_reducible refine wpList_store_row rfl 24 (.tmp 8) (.tmp 35) rfl go20 ro20 rfl rfl 24 #[.int .u64 0, .int .u64 0, .int .u64 0, .int .u64 0, .int .u64 0] RC.out Io20.out Lo20.out Oo20.out ?_)
  simp only [Act.put]
  clear RA RC
  have R6 := Lib.hid (show Rw w [(ga, ra, 24), (gR, #[.int .u64 0, .int .u64 0, .int .u64 0, .int .u64 0, .int .u64 0], 24), (gp2, rp2, 24), (gp9, rp9, 24), (gp11, rp11, 24), (go5, ro5, 24), (go10, ro10, 24), (go20, ro20, 24)] _ from RB.out)
  clear RB
  generalize w6.setRow go20 ro20 = W6 at R6 ⊢
  refine wp_region_makes 4 1 (fun _ => (9, .cells #[.int .u64 0, .int .u64 0, .int .u64 0, .int .u64 0, .int .u64 0] 24 (0, 0))) (by kernel_rfl) (by kernel_rfl) (by rfl) ?hmk ?h
  case hmk =>
    intro j h1 h2
    obtain rfl : j = 4 := by omega
    exact ⟨_, rfl, rfl, fun _ => rfl, fun _ _ => by go_simp⟩
  apply Exists.intro
  refine ⟨?_, ?_⟩
  · intro p hp
    have RP := Lib.hid (R6.out.on hp)
    simp only [List.take_succ_cons, List.take_zero]
    go_big_quiet_want
    refine quiet_load_row 24 (.tmp 8) (by rfl) go20 (by rfl) 24 ro20 (0, 0) _ ?hC1 Try.underlying24 rfl Io20.out ?_
    case hC1 => rintro w' ⟨q, rfl⟩; exact (RP.out.on q.2).row 7
    simp only [Act.put, List.setIfInBounds_toArray, List.set_cons_zero, List.set_cons_succ]
    go_big_quiet_on
    go_big_quiet_step (exact calls_below (So40.out _))
    go_big_quiet_want
    refine quiet_load_row 24 (.tmp 8) (by rfl) go20 (by rfl) 24 ro20 (0, 0) _ ?hC2 Try.underlying24 rfl Io20.out ?_
    case hC2 => rintro w' ⟨q, rfl⟩; exact (RP.out.on q.2).row 7
    simp only [Act.put, List.setIfInBounds_toArray, List.set_cons_zero, List.set_cons_succ]
    go_big_quiet_on
    go_big_quiet_step (exact calls_below (Mo40.out _))
    exact wpQuiet_nil rfl
  intro go40 hg _ w7 hb hr
  have RA := Lib.hid (rw_made R6.out hb hg (hr go40 _ (updR_same _ _ _)))
  have RB := Lib.hid (RA.out.store 8 ro40)
  have RC := Lib.hid (RA.out.row 8)
  clear hb hg hr R6
  simp only [List.drop_succ_cons, List.drop_zero, Act.put, List.setIfInBounds_toArray, List.set_cons_zero, List.set_cons_succ]
  go_upto_region 8 with (with_reducible refine wpList_store_row rfl 24 (.tmp 9) (.tmp 39) rfl go40 ro40 rfl rfl 24 #[.int .u64 0, .int .u64 0, .int .u64 0, .int .u64 0, .int .u64 0] RC.out Io40.out Lo40.out Oo40.out ?_)
  simp only [Act.put]
  clear RA RC
  have R7 := Lib.hid (show Rw w [(ga, ra, 24), (gR, #[.int .u64 0, .int .u64 0, .int .u64 0, .int .u64 0, .int .u64 0], 24), (gp2, rp2, 24), (gp9, rp9, 24), (gp11, rp11, 24), (go5, ro5, 24), (go10, ro10, 24), (go20, ro20, 24), (go40, ro40, 24)] _ from RB.out)
  clear RB
  generalize w7.setRow go40 ro40 = W7 at R7 ⊢
  refine wp_region_makes 4 1 (fun _ => (10, .cells #[.int .u64 0, .int .u64 0, .int .u64 0, .int .u64 0, .int .u64 0] 24 (0, 0))) (by kernel_rfl) (by kernel_rfl) (by rfl) ?hmk ?h
  case hmk =>
    intro j h1 h2
    obtain rfl : j = 4 := by omega
    exact ⟨_, rfl, rfl, fun _ => rfl, fun _ _ => by go_simp⟩
  apply Exists.intro
  refine ⟨?_, ?_⟩
  · intro p hp
    have RP := Lib.hid (R7.out.on hp)
    simp only [List.take_succ_cons, List.take_zero]
    go_big_quiet_want
    refine quiet_load_row 24 (.tmp 9) (by rfl) go40 (by rfl) 24 ro40 (0, 0) _ ?hC1 Try.underlying24 rfl Io40.out ?_
    case hC1 => rintro w' ⟨q, rfl⟩; exact (RP.out.on q.2).row 8
    simp only [Act.put, List.setIfInBounds_toArray, List.set_cons_zero, List.set_cons_succ]
    go_big_quiet_on
    go_big_quiet_step (exact calls_below (So50.out _))
    go_big_quiet_want
    refine quiet_load_row 24 (.tmp 7) (by rfl) go10 (by rfl) 24 ro10 (0, 0) _ ?hC2 Try.underlying24 rfl Io10.out ?_
    case hC2 => rintro w' ⟨q, rfl⟩; exact (RP.out.on q.2).row 6
    simp only [Act.put, List.setIfInBounds_toArray, List.set_cons_zero, List.set_cons_succ]
    go_big_quiet_on
    go_big_quiet_step (exact calls_below (Mo50.out _))
    exact wpQuiet_nil rfl
  intro go50 hg _ w8 hb hr
  have RA := Lib.hid (rw_made R7.out hb hg (hr go50 _ (updR_same _ _ _)))
  have RB := Lib.hid (RA.out.store 9 ro50)
  have RC := Lib.hid (RA.out.row 9)
  clear hb hg hr R7
  simp only [List.drop_succ_cons, List.drop_zero, Act.put, List.setIfInBounds_toArray, List.set_cons_zero, List.set_cons_succ]
  go_upto_region 9 with (with_reducible refine wpList_store_row rfl 24 (.tmp 10) (.tmp 43) rfl go50 ro50 rfl rfl 24 #[.int .u64 0, .int .u64 0, .int .u64 0, .int .u64 0, .int .u64 0] RC.out Io50.out Lo50.out Oo50.out ?_)
  simp only [Act.put]
  clear RA RC
  have R8 := Lib.hid (show Rw w [(ga, ra, 24), (gR, #[.int .u64 0, .int .u64 0, .int .u64 0, .int .u64 0, .int .u64 0], 24), (gp2, rp2, 24), (gp9, rp9, 24), (gp11, rp11, 24), (go5, ro5, 24), (go10, ro10, 24), (go20, ro20, 24), (go40, ro40, 24), (go50, ro50, 24)] _ from RB.out)
  clear RB
  generalize w8.setRow go50 ro50 = W8 at R8 ⊢
  refine wp_region_makes 4 1 (fun _ => (11, .cells #[.int .u64 0, .int .u64 0, .int .u64 0, .int .u64 0, .int .u64 0] 24 (0, 0))) (by kernel_rfl) (by kernel_rfl) (by rfl) ?hmk ?h
  case hmk =>
    intro j h1 h2
    obtain rfl : j = 4 := by omega
    exact ⟨_, rfl, rfl, fun _ => rfl, fun _ _ => by go_simp⟩
  apply Exists.intro
  refine ⟨?_, ?_⟩
  · intro p hp
    have RP := Lib.hid (R8.out.on hp)
    simp only [List.take_succ_cons, List.take_zero]
    go_big_quiet_want
    refine quiet_load_row 24 (.tmp 10) (by rfl) go50 (by rfl) 24 ro50 (0, 0) _ ?hC1 Try.underlying24 rfl Io50.out ?_
    case hC1 => rintro w' ⟨q, rfl⟩; exact (RP.out.on q.2).row 9
    simp only [Act.put, List.setIfInBounds_toArray, List.set_cons_zero, List.set_cons_succ]
    go_big_quiet_on
    go_big_quiet_step (exact calls_below (So100.out _))
    go_big_quiet_want
    refine quiet_load_row 24 (.tmp 10) (by rfl) go50 (by rfl) 24 ro50 (0, 0) _ ?hC2 Try.underlying24 rfl Io50.out ?_
    case hC2 => rintro w' ⟨q, rfl⟩; exact (RP.out.on q.2).row 9
    simp only [Act.put, List.setIfInBounds_toArray, List.set_cons_zero, List.set_cons_succ]
    go_big_quiet_on
    go_big_quiet_step (exact calls_below (Mo100.out _))
    exact wpQuiet_nil rfl
  intro go100 hg _ w9 hb hr
  have RA := Lib.hid (rw_made R8.out hb hg (hr go100 _ (updR_same _ _ _)))
  have RB := Lib.hid (RA.out.store 10 ro100)
  have RC := Lib.hid (RA.out.row 10)
  clear hb hg hr R8
  simp only [List.drop_succ_cons, List.drop_zero, Act.put, List.setIfInBounds_toArray, List.set_cons_zero, List.set_cons_succ]
  go_upto_region 10 with (with_reducible refine wpList_store_row rfl 24 (.tmp 11) (.tmp 47) rfl go100 ro100 rfl rfl 24 #[.int .u64 0, .int .u64 0, .int .u64 0, .int .u64 0, .int .u64 0] RC.out Io100.out Lo100.out Oo100.out ?_)
  simp only [Act.put]
  clear RA RC
  have R9 := Lib.hid (show Rw w [(ga, ra, 24), (gR, #[.int .u64 0, .int .u64 0, .int .u64 0, .int .u64 0, .int .u64 0], 24), (gp2, rp2, 24), (gp9, rp9, 24), (gp11, rp11, 24), (go5, ro5, 24), (go10, ro10, 24), (go20, ro20, 24), (go40, ro40, 24), (go50, ro50, 24), (go100, ro100, 24)] _ from RB.out)
  clear RB
  generalize w9.setRow go100 ro100 = W9 at R9 ⊢
  refine wp_region_makes 4 1 (fun _ => (12, .cells #[.int .u64 0, .int .u64 0, .int .u64 0, .int .u64 0, .int .u64 0] 24 (0, 0))) (by kernel_rfl) (by kernel_rfl) (by rfl) ?hmk ?h
  case hmk =>
    intro j h1 h2
    obtain rfl : j = 4 := by omega
    exact ⟨_, rfl, rfl, fun _ => rfl, fun _ _ => by go_simp⟩
  apply Exists.intro
  refine ⟨?_, ?_⟩
  · intro p hp
    have RP := Lib.hid (R9.out.on hp)
    simp only [List.take_succ_cons, List.take_zero]
    go_big_quiet_want
    refine quiet_load_row 24 (.tmp 11) (by rfl) go100 (by rfl) 24 ro100 (0, 0) _ ?hC1 Try.underlying24 rfl Io100.out ?_
    case hC1 => rintro w' ⟨q, rfl⟩; exact (RP.out.on q.2).row 10
    simp only [Act.put, List.setIfInBounds_toArray, List.set_cons_zero, List.set_cons_succ]
    go_big_quiet_on
    go_big_quiet_step (exact calls_below (So200.out _))
    go_big_quiet_want
    refine quiet_load_row 24 (.tmp 11) (by rfl) go100 (by rfl) 24 ro100 (0, 0) _ ?hC2 Try.underlying24 rfl Io100.out ?_
    case hC2 => rintro w' ⟨q, rfl⟩; exact (RP.out.on q.2).row 10
    simp only [Act.put, List.setIfInBounds_toArray, List.set_cons_zero, List.set_cons_succ]
    go_big_quiet_on
    go_big_quiet_step (exact calls_below (Mo200.out _))
    exact wpQuiet_nil rfl
  intro go200 hg _ w10 hb hr
  have RA := Lib.hid (rw_made R9.out hb hg (hr go200 _ (updR_same _ _ _)))
  have RB := Lib.hid (RA.out.store 11 ro200)
  have RC := Lib.hid (RA.out.row 11)
  clear hb hg hr R9
  simp only [List.drop_succ_cons, List.drop_zero, Act.put, List.setIfInBounds_toArray, List.set_cons_zero, List.set_cons_succ]
  go_upto_region 11 with (with_reducible refine wpList_store_row rfl 24 (.tmp 12) (.tmp 51) rfl go200 ro200 rfl rfl 24 #[.int .u64 0, .int .u64 0, .int .u64 0, .int .u64 0, .int .u64 0] RC.out Io200.out Lo200.out Oo200.out ?_)
  simp only [Act.put]
  clear RA RC
  have R10 := Lib.hid (show Rw w [(ga, ra, 24), (gR, #[.int .u64 0, .int .u64 0, .int .u64 0, .int .u64 0, .int .u64 0], 24), (gp2, rp2, 24), (gp9, rp9, 24), (gp11, rp11, 24), (go5, ro5, 24), (go10, ro10, 24), (go20, ro20, 24), (go40, ro40, 24), (go50, ro50, 24), (go100, ro100, 24), (go200, ro200, 24)] _ from RB.out)
  clear RB
  generalize w10.setRow go200 ro200 = W10 at R10 ⊢
  refine wp_region_makes 4 1 (fun _ => (13, .cells #[.int .u64 0, .int .u64 0, .int .u64 0, .int .u64 0, .int .u64 0] 24 (0, 0))) (by kernel_rfl) (by kernel_rfl) (by rfl) ?hmk ?h
  case hmk =>
    intro j h1 h2
    obtain rfl : j = 4 := by omega
    exact ⟨_, rfl, rfl, fun _ => rfl, fun _ _ => by go_simp⟩
  apply Exists.intro
  refine ⟨?_, ?_⟩
  · intro p hp
    have RP := Lib.hid (R10.out.on hp)
    simp only [List.take_succ_cons, List.take_zero]
    go_big_quiet_want
    refine quiet_load_row 24 (.tmp 12) (by rfl) go200 (by rfl) 24 ro200 (0, 0) _ ?hC1 Try.underlying24 rfl Io200.out ?_
    case hC1 => rintro w' ⟨q, rfl⟩; exact (RP.out.on q.2).row 11
    simp only [Act.put, List.setIfInBounds_toArray, List.set_cons_zero, List.set_cons_succ]
    go_big_quiet_on
    go_big_quiet_step (exact calls_below (So250.out _))
    go_big_quiet_want
    refine quiet_load_row 24 (.tmp 10) (by rfl) go50 (by rfl) 24 ro50 (0, 0) _ ?hC2 Try.underlying24 rfl Io50.out ?_
    case hC2 => rintro w' ⟨q, rfl⟩; exact (RP.out.on q.2).row 9
    simp only [Act.put, List.setIfInBounds_toArray, List.set_cons_zero, List.set_cons_succ]
    go_big_quiet_on
    go_big_quiet_step (exact calls_below (Mo250.out _))
    exact wpQuiet_nil rfl
  intro go250 hg _ w11 hb hr
  have RA := Lib.hid (rw_made R10.out hb hg (hr go250 _ (updR_same _ _ _)))
  have RB := Lib.hid (RA.out.store 12 ro250)
  have RC := Lib.hid (RA.out.row 12)
  clear hb hg hr R10
  simp only [List.drop_succ_cons, List.drop_zero, Act.put, List.setIfInBounds_toArray, List.set_cons_zero, List.set_cons_succ]
  go_upto_region 12 with (with_reducible refine wpList_store_row rfl 24 (.tmp 13) (.tmp 55) rfl go250 ro250 rfl rfl 24 #[.int .u64 0, .int .u64 0, .int .u64 0, .int .u64 0, .int .u64 0] RC.out Io250.out Lo250.out Oo250.out ?_)
  simp only [Act.put]
  clear RA RC
  have R11 := Lib.hid (show Rw w [(ga, ra, 24), (gR, #[.int .u64 0, .int .u64 0, .int .u64 0, .int .u64 0, .int .u64 0], 24), (gp2, rp2, 24), (gp9, rp9, 24), (gp11, rp11, 24), (go5, ro5, 24), (go10, ro10, 24), (go20, ro20, 24), (go40, ro40, 24), (go50, ro50, 24), (go100, ro100, 24), (go200, ro200, 24), (go250, ro250, 24)] _ from RB.out)
  clear RB
  generalize w11.setRow go250 ro250 = W11 at R11 ⊢
  refine wp_region_below_tail 4 (by kernel_rfl) (by kernel_rfl) ?_
  simp only [List.take_succ_cons, List.take_zero]
  go_big_quiet_want
  refine quiet_load_row 24 (.tmp 13) (by rfl) go250 (by rfl) 24 ro250 (0, 0) _ ?hC1 Try.underlying24 rfl Io250.out ?_
  case hC1 => rintro w' ⟨q, rfl⟩; exact (R11.out.on q.2).row 12
  simp only [Act.put, List.setIfInBounds_toArray, List.set_cons_zero, List.set_cons_succ]
  go_big_quiet_on
  go_big_quiet_step (exact calls_below (SR.out _))
  go_big_quiet_want
  refine quiet_load_row 24 (.tmp 5) (by rfl) gp11 (by rfl) 24 rp11 (0, 0) _ ?hC2 Try.underlying24 rfl Ip11.out ?_
  case hC2 => rintro w' ⟨q, rfl⟩; exact (R11.out.on q.2).row 4
  simp only [Act.put, List.setIfInBounds_toArray, List.set_cons_zero, List.set_cons_succ]
  go_big_quiet_on
  go_big_quiet_step (exact calls_below (MR.out _))
  refine wpQuiet_nil ?_
  rintro _ ⟨p, rfl⟩
  have RA := Lib.hid (R11.out.on p.2)
  generalize p.1 = wz at RA ⊢
  have RB := Lib.hid (RA.out.store 1 rR)
  have RC := Lib.hid (RA.out.row 1)
  simp only [List.drop_succ_cons, List.drop_zero]
  go_wp2_with (with_reducible refine wpList_store_row rfl 24 (.tmp 2) (.tmp 59) rfl gR rR rfl rfl 24 #[.int .u64 0, .int .u64 0, .int .u64 0, .int .u64 0, .int .u64 0] RC.out IR.out LR.out OR.out ?_)
  exact bodyPost_ret (results_cell_row rfl _ _ gR 24 rR (0, 0) _ rfl (RB.out.row 1) Try.underlying24 rfl IR.out) rfl ⟨rfl, RB.out.bel⟩
end Go.Proofs.Ythlmphloalbhnaa

/-
  mailsacklaw03.FeNegs: the walk.
-/
namespace Go.Proofs.Ythlmphloalbhnaa
open Go.RowKit MS

theorem small_ok (n : Nat) (h : n < 18446744073709551616) : (⟨n, 0, 0, 0, 0⟩ : N5).ok := ⟨h, by show 0 < _; decide, by show 0 < _; decide, by show 0 < _; decide, by show 0 < _; decide⟩
set_option maxRecDepth 100000 in
set_option maxHeartbeats 2000000 in
theorem fenegs_any (a : N5) (ha : a.ok) (n : Nat) (hn : n < 4294967296) (m : Nat) (hm : m < 4294967296) (w : World) :
    Calls Try.prog 6 #[.agg (nvA a), .int .u32 (n : Int), .int .u32 (m : Int)] w fun e w' => e = .returned (.bool true) ∧ Below w.heap.size w w' := by
  have A := Lib.hid (fun w => awake03_any w)
  have C1 := Lib.hid (fun w => fesub_any a a ha ha w)
  have B1 := Lib.hid (fun w => febytes_any (sub a a) (sub_ok ha) w)
  have B2 := Lib.hid (fun w => febytes_any n0 n0_ok w)
  have C2 := Lib.hid (fun w => fesub_any n0 a n0_ok ha w)
  have C3 := Lib.hid (fun w => fesub_any n0 (sub n0 a) n0_ok (sub_ok n0_ok) w)
  have B3 := Lib.hid (fun w => febytes_any (sub n0 (sub n0 a)) (sub_ok n0_ok) w)
  have B4 := Lib.hid (fun w => febytes_any a ha w)
  have C4 := Lib.hid (fun w => fesmall_any a n ha hn w)
  have C5 := Lib.hid (fun w => fesmall_any a m ha hm w)
  have C6 := Lib.hid (fun w => feadd_any (mul a ⟨n, 0, 0, 0, 0⟩) (mul a ⟨m, 0, 0, 0, 0⟩) (mul_ok ha (small_ok (n) (by omega))) (mul_ok ha (small_ok (m) (by omega))) w)
  have B5 := Lib.hid (fun w => febytes_any (add (mul a ⟨n, 0, 0, 0, 0⟩) (mul a ⟨m, 0, 0, 0, 0⟩)) (add_ok (mul_ok ha (small_ok (n) (by omega))) (mul_ok ha (small_ok (m) (by omega)))) w)
  have C7 := Lib.hid (fun w => femul_any a ⟨n + m, 0, 0, 0, 0⟩ ha (small_ok (n + m) (by omega)) w)
  have B6 := Lib.hid (fun w => febytes_any (mul a ⟨n + m, 0, 0, 0, 0⟩) (mul_ok ha (small_ok (n + m) (by omega))) w)
  have C8 := Lib.hid (fun w => fesmall_any a 2 ha (by decide) w)
  have B7 := Lib.hid (fun w => febytes_any (mul a ⟨2, 0, 0, 0, 0⟩) (mul_ok ha (small_ok (2) (by omega))) w)
  have C9 := Lib.hid (fun w => feadd_any a a ha ha w)
  have B8 := Lib.hid (fun w => febytes_any (add a a) (add_ok ha ha) w)
  rw [feB_em (em_sub_self ha)] at B1
  rw [feB_em (em_sub_sub ha (sub_ok n0_ok))] at B3
  rw [feB_em (em_small a n m)] at B5
  rw [feB_em (em_twice a)] at B7
  rw [show nvA ⟨n + m, 0, 0, 0, 0⟩ = #[.int .u64 ((n : Int) + (m : Int)), .int .u64 0, .int .u64 0, .int .u64 0, .int .u64 0] from rfl] at C7
  rw [show ((2 : Nat) : Int) = 2 from rfl] at C8
  have hn0 : (0 : Int) ≤ n := by omega
  have hm0 : (0 : Int) ≤ m := by omega
  have hn1 : (n : Int) ≤ 4294967295 := by omega
  have hm1 : (m : Int) ≤ 4294967295 := by omega
  generalize feB n0 = E0 at *
  generalize feB a = E3 at *
  generalize feB (mul a ⟨n + m, 0, 0, 0, 0⟩) = E5 at *
  generalize feB (add a a) = E6 at *
  have IA := Lib.hid (infoV a)
  have IZ := Lib.hid (infoV n0)
  have R0 := Lib.hid (show Rw w [(w.heap.size, nvA a, 24), (w.heap.size + 1, nvA n0, 24)] ((w.alloc (.cells (nvA a) 24 (0, 0))).alloc (.cells #[.int .u64 0, .int .u64 0, .int .u64 0, .int .u64 0, .int .u64 0] 24 (0, 0))) from rw2 w (nvA a) (nvA n0))
  generalize nvA (add (mul a ⟨n, 0, 0, 0, 0⟩) (mul a ⟨m, 0, 0, 0, 0⟩)) = x1 at *
  generalize nvA (mul a ⟨n + m, 0, 0, 0, 0⟩) = x2 at *
  generalize nvA (mul a ⟨n, 0, 0, 0, 0⟩) = x3 at *
  generalize nvA (mul a ⟨m, 0, 0, 0, 0⟩) = x4 at *
  generalize nvA (mul a ⟨2, 0, 0, 0, 0⟩) = x5 at *
  generalize nvA (add a a) = x6 at *
  generalize nvA (sub n0 (sub n0 a)) = x7 at *
  generalize nvA (sub n0 a) = x8 at *
  generalize nvA (sub a a) = x9 at *
  generalize nvA a = ra at *
  generalize nvA n0 = rz at *
  clear ha hn hm
  go_enter Try.func6, Try.ntmps6
  go_upto_region 2 with fail
  generalize (w.alloc (.cells ra 24 (0, 0))).alloc (.cells #[.int .u64 0, .int .u64 0, .int .u64 0, .int .u64 0, .int .u64 0] 24 (0, 0)) = W at R0 ⊢
  generalize w.heap.size + 1 = gz at *
  generalize hga : w.heap.size = ga at *
  have RR := R0
  clear hga
  refine wp_region_below (by kernel_rfl) (by kernel_rfl) ?_
  go_big_quiet_want
  refine quiet_load_row 24 (.tmp 3) (by rfl) ga (by rfl) 24 ra (0, 0) _ ?hC Try.underlying24 rfl IA.out ?_
  case hC => rintro w' ⟨p, rfl⟩; exact (RR.out.on p.2).row 0
  simp only [Act.put, List.setIfInBounds_toArray, List.set_cons_zero, List.set_cons_succ]
  go_big_quiet_on
  go_big_quiet_want
  refine quiet_load_row 24 (.tmp 3) (by rfl) ga (by rfl) 24 ra (0, 0) _ ?hC Try.underlying24 rfl IA.out ?_
  case hC => rintro w' ⟨p, rfl⟩; exact (RR.out.on p.2).row 0
  simp only [Act.put, List.setIfInBounds_toArray, List.set_cons_zero, List.set_cons_succ]
  go_big_quiet_on
  go_big_quiet_step (exact calls_below (C1.out _))
  go_big_quiet_step (exact calls_below (B1.out _))
  go_big_quiet_want
  refine quiet_load_row 24 (.tmp 7) (by rfl) gz (by rfl) 24 rz (0, 0) _ ?hC Try.underlying24 rfl IZ.out ?_
  case hC => rintro w' ⟨p, rfl⟩; exact (RR.out.on p.2).row 1
  simp only [Act.put, List.setIfInBounds_toArray, List.set_cons_zero, List.set_cons_succ]
  go_big_quiet_on
  go_big_quiet_step (exact calls_below (B2.out _))
  go_big_quiet_step (fail)
  go_big_quiet_step (fail)
  go_big_quiet_want
  refine quiet_load_row 24 (.tmp 7) (by rfl) gz (by rfl) 24 rz (0, 0) _ ?hC Try.underlying24 rfl IZ.out ?_
  case hC => rintro w' ⟨p, rfl⟩; exact (RR.out.on p.2).row 1
  simp only [Act.put, List.setIfInBounds_toArray, List.set_cons_zero, List.set_cons_succ]
  go_big_quiet_on
  go_big_quiet_want
  refine quiet_load_row 24 (.tmp 7) (by rfl) gz (by rfl) 24 rz (0, 0) _ ?hC Try.underlying24 rfl IZ.out ?_
  case hC => rintro w' ⟨p, rfl⟩; exact (RR.out.on p.2).row 1
  simp only [Act.put, List.setIfInBounds_toArray, List.set_cons_zero, List.set_cons_succ]
  go_big_quiet_on
  go_big_quiet_want
  refine quiet_load_row 24 (.tmp 3) (by rfl) ga (by rfl) 24 ra (0, 0) _ ?hC Try.underlying24 rfl IA.out ?_
  case hC => rintro w' ⟨p, rfl⟩; exact (RR.out.on p.2).row 0
  simp only [Act.put, List.setIfInBounds_toArray, List.set_cons_zero, List.set_cons_succ]
  go_big_quiet_on
  go_big_quiet_step (exact calls_below (C2.out _))
  go_big_quiet_step (exact calls_below (C3.out _))
  go_big_quiet_step (exact calls_below (B3.out _))
  go_big_quiet_want
  refine quiet_load_row 24 (.tmp 3) (by rfl) ga (by rfl) 24 ra (0, 0) _ ?hC Try.underlying24 rfl IA.out ?_
  case hC => rintro w' ⟨p, rfl⟩; exact (RR.out.on p.2).row 0
  simp only [Act.put, List.setIfInBounds_toArray, List.set_cons_zero, List.set_cons_succ]
  go_big_quiet_on
  go_big_quiet_step (exact calls_below (B4.out _))
  go_big_quiet_step (fail)
  go_big_quiet_step (fail)
  refine wpQuiet_nil ?_
  rintro _ ⟨p, rfl⟩
  have RR := Lib.hid (RR.out.on p.2)
  generalize p.1 = wq at RR ⊢
  go_upto_region 4 with fail
  refine wp_region_below (by kernel_rfl) (by kernel_rfl) ?_
  go_big_quiet_want
  refine quiet_load_row 24 (.tmp 3) (by rfl) ga (by rfl) 24 ra (0, 0) _ ?hC Try.underlying24 rfl IA.out ?_
  case hC => rintro w' ⟨p, rfl⟩; exact (RR.out.on p.2).row 0
  simp only [Act.put, List.setIfInBounds_toArray, List.set_cons_zero, List.set_cons_succ]
  go_big_quiet_on
  go_big_quiet_step (fail)
  go_big_quiet_step (exact calls_below (C4.out _))
  go_big_quiet_want
  refine quiet_load_row 24 (.tmp 3) (by rfl) ga (by rfl) 24 ra (0, 0) _ ?hC Try.underlying24 rfl IA.out ?_
  case hC => rintro w' ⟨p, rfl⟩; exact (RR.out.on p.2).row 0
  simp only [Act.put, List.setIfInBounds_toArray, List.set_cons_zero, List.set_cons_succ]
  go_big_quiet_on
  go_big_quiet_step (fail)
  go_big_quiet_step (exact calls_below (C5.out _))
  go_big_quiet_step (exact calls_below (C6.out _))
  go_big_quiet_step (exact calls_below (B5.out _))
  go_big_quiet_want
  refine quiet_load_row 24 (.tmp 3) (by rfl) ga (by rfl) 24 ra (0, 0) _ ?hC Try.underlying24 rfl IA.out ?_
  case hC => rintro w' ⟨p, rfl⟩; exact (RR.out.on p.2).row 0
  simp only [Act.put, List.setIfInBounds_toArray, List.set_cons_zero, List.set_cons_succ]
  go_big_quiet_on
  go_big_quiet_step (fail)
  go_big_quiet_step (fail)
  go_big_quiet_step (fail)
  go_big_quiet_step (fail)
  go_big_quiet_step (fail)
  go_big_quiet_step (fail)
  go_big_quiet_step (exact calls_below (C7.out _))
  go_big_quiet_step (exact calls_below (B6.out _))
  go_big_quiet_step (fail)
  go_big_quiet_step (fail)
  go_big_quiet_want
  refine quiet_load_row 24 (.tmp 3) (by rfl) ga (by rfl) 24 ra (0, 0) _ ?hC Try.underlying24 rfl IA.out ?_
  case hC => rintro w' ⟨p, rfl⟩; exact (RR.out.on p.2).row 0
  simp only [Act.put, List.setIfInBounds_toArray, List.set_cons_zero, List.set_cons_succ]
  go_big_quiet_on
  go_big_quiet_step (exact calls_below (C8.out _))
  go_big_quiet_step (exact calls_below (B7.out _))
  go_big_quiet_want
  refine quiet_load_row 24 (.tmp 3) (by rfl) ga (by rfl) 24 ra (0, 0) _ ?hC Try.underlying24 rfl IA.out ?_
  case hC => rintro w' ⟨p, rfl⟩; exact (RR.out.on p.2).row 0
  simp only [Act.put, List.setIfInBounds_toArray, List.set_cons_zero, List.set_cons_succ]
  go_big_quiet_on
  go_big_quiet_want
  refine quiet_load_row 24 (.tmp 3) (by rfl) ga (by rfl) 24 ra (0, 0) _ ?hC Try.underlying24 rfl IA.out ?_
  case hC => rintro w' ⟨p, rfl⟩; exact (RR.out.on p.2).row 0
  simp only [Act.put, List.setIfInBounds_toArray, List.set_cons_zero, List.set_cons_succ]
  go_big_quiet_on
  go_big_quiet_step (exact calls_below (C9.out _))
  go_big_quiet_step (exact calls_below (B8.out _))
  go_big_quiet_step (fail)
  go_big_quiet_step (fail)
  go_big_quiet_step (fail)
  go_big_quiet_step (exact calls_below (A.out _))
  go_big_quiet_step (fail)
  go_big_quiet_step (fail)
  refine wpQuiet_nil ?_
  rintro _ ⟨p, rfl⟩
  have RR := Lib.hid (RR.out.on p.2)
  generalize p.1 = wq at RR ⊢
  go_wp2_with fail
  go_ret
  exact ⟨rfl, RR.out.bel⟩

end Go.Proofs.Ythlmphloalbhnaa

/-
  'return a, b' of two rows: a region that draws its order, of two loads and two stores.
-/
namespace Go.Proofs.Ythlmphloalbhnaa
open Go.RowKit MS

section
variable {P : Program} {ops : Array Oper} {Q : Exit → Act → World → Prop}
theorem wpOp_store {i : Nat} {o : Oper} {K : Act → World → Prop} {a : Act} {w : World} (hi : ops[i]? = some o) (hgd : o.guard = none) (hd : o.dst = none) (ty : TypeId) (x y : Operand) (ho : o.op = .store ty x y)
    (g : Nat) (cells : Array Value) (hx : a.eval x = .pointer (some ⟨g, 0, none⟩)) (hy : a.eval y = .agg cells) (t : TypeId) (old : Array Value) (hg : w.heap[g]? = some (.cells old t (0, 0))) (hin : (P.info? ty).map (·.size) = some cells.size)
    (hold : old.size = cells.size) (h1 : cells.all (·.oneCell') = true) (h : K a (w.setRow g cells)) : wpOp P ops Q i K a w := by
  unfold wpOp
  simp only [hi]
  rw [if_pos (by simp [Region.wanted, hgd])]
  refine .inl (wp_store_row ty x y ho g cells hx hy t old hg hin hold h1 ?_)
  rw [hd]
  exact h

theorem region_two {id : Nat} {a : Act} {w : World} {o0 o1 o2 o3 : Oper} {d0 d1 x0 x1 y0 y1 b0 b1 g0 g1 ty : Nat} {A B C D : Array Value} {de : TypeDesc} (hm : P.follows .mixedOrders = true) (hsz : ops.size = 4)
    (h0 : ops[0]? = some o0) (h1 : ops[1]? = some o1) (h2 : ops[2]? = some o2) (h3 : ops[3]? = some o3) (k0 : o0.guard = none) (k1 : o1.guard = none) (k2 : o2.guard = none) (k3 : o3.guard = none)
    (e0 : o0.dst = some d0) (e1 : o1.dst = some d1) (e2 : o2.dst = none) (e3 : o3.dst = none)
    (p0 : o0.op = .load ty (.tmp x0)) (p1 : o1.op = .load ty (.tmp x1)) (p2 : o2.op = .store ty (.tmp y0) (.tmp d0)) (p3 : o3.op = .store ty (.tmp y1) (.tmp d1))
    (hs : Region.noSelect ops = true) (f0 : Region.free .any ops #[false, false, false, false] 0 = true) (c0 : (Region.ready .any ops #[false, false, false, false]).contains 0 = true)
    (f1 : Region.free .any ops #[true, false, false, false] 1 = true) (c1 : (Region.ready .any ops #[true, false, false, false]).contains 1 = true)
    (r2 : Region.ready .any ops #[true, true, false, false] = [2]) (r3 : Region.ready .any ops #[true, true, true, false] = [3]) (r4 : Region.ready .any ops #[true, true, true, true] = [])
    (hne : d0 ≠ x1 ∧ d0 ≠ y0 ∧ d0 ≠ y1 ∧ d1 ≠ y0 ∧ d1 ≠ y1 ∧ d1 ≠ d0) (hd0 : d0 < a.tmps.size) (hd1 : d1 < a.tmps.size)
    (v0 : a.eval (.tmp x0) = .pointer (some ⟨b0, 0, none⟩)) (v1 : a.eval (.tmp x1) = .pointer (some ⟨b1, 0, none⟩)) (v2 : a.eval (.tmp y0) = .pointer (some ⟨g0, 0, none⟩)) (v3 : a.eval (.tmp y1) = .pointer (some ⟨g1, 0, none⟩))
    (w0 : w.heap[b0]? = some (.cells A ty (0, 0))) (w1 : w.heap[b1]? = some (.cells B ty (0, 0))) (w2 : w.heap[g0]? = some (.cells C ty (0, 0))) (w3 : w.heap[g1]? = some (.cells D ty (0, 0)))
    (n00 : b0 ≠ g0) (n01 : b0 ≠ g1) (n10 : b1 ≠ g0) (n11 : b1 ≠ g1) (ng : g1 ≠ g0) (hu : P.underlying ty = some de) (hrow : (match de with | .struct _ | .array _ _ => true | _ => false) = true)
    (iA : (P.info? ty).map (·.size) = some A.size) (iB : (P.info? ty).map (·.size) = some B.size) (sC : C.size = A.size) (sD : D.size = B.size) (oA : A.all (·.oneCell') = true) (oB : B.all (·.oneCell') = true)
    (hQ : ∀ c (a : Act) (d : Nat) v w, Q (.panic c) (a.put (some d) v) w → Q (.panic c) a w) (hK : Q .normal ((a.put (some d0) (.agg A)).put (some d1) (.agg B)) ((w.drew.setRow g0 A).setRow g1 B)) : (Code.region id ops true).wp P Q a w := by
  obtain ⟨m1, m2, m3, m4, m5, m6⟩ := hne
  refine wp_region_held (S := fun w' => w'.heap[b0]? = some (.cells A ty (0, 0)) ∧ w'.heap[b1]? = some (.cells B ty (0, 0))) hm ?_
  rw [hsz]
  change wpAnyH P .any ops Q _ 4 #[false, false, false, false] a w.drew
  have sz : ∀ (a : Act) d v, (a.put d v).tmps.size = a.tmps.size := fun a d v => by cases d <;> simp [Act.put]
  have wn : ∀ (o : Oper) (a : Act), o.guard = none → Region.wanted o (yielded ops a.tmps) = true := fun o a h => by simp [Region.wanted, h]
  have l0 : ∀ w' : World, (w'.heap[b0]? = some (.cells A ty (0, 0)) ∧ w'.heap[b1]? = some (.cells B ty (0, 0))) → (execOp a.eval o0).run P w' = .ok (.value (.agg A)) w' := fun w' h => run_load_row ty (.tmp x0) p0 b0 v0 ty A (0, 0) de h.1 hu hrow iA
  refine wpAnyH_take (i := 0) (v := .agg A) h0 hs f0 c0 (fun c a w h => by rw [e0] at h; exact hQ c a _ _ w h) (Or.inl ⟨wn _ _ k0, l0⟩) ⟨w0, w1⟩ ?_
  rw [e0]
  change wpAnyH P .any ops Q _ 3 #[true, false, false, false] (a.put (some d0) (.agg A)) w.drew
  have l1 : ∀ w' : World, (w'.heap[b0]? = some (.cells A ty (0, 0)) ∧ w'.heap[b1]? = some (.cells B ty (0, 0))) → (execOp (a.put (some d0) (.agg A)).eval o1).run P w' = .ok (.value (.agg B)) w' := fun w' h => run_load_row ty (.tmp x1) p1 b1 (by rw [Act.eval_put_ne _ _ _ _ m1]; exact v1) ty B (0, 0) de h.2 hu hrow iB
  refine wpAnyH_take (i := 1) (v := .agg B) h1 hs f1 c1 (fun c a w h => by rw [e1] at h; exact hQ c a _ _ w h) (Or.inl ⟨wn _ _ k1, l1⟩) ⟨w0, w1⟩ ?_
  rw [e1]
  change wpAnyH P .any ops Q _ 2 #[true, true, false, false] ((a.put (some d0) (.agg A)).put (some d1) (.agg B)) w.drew
  have oth : ∀ (w' : World) (g k : Nat) (cs : Array Value), k ≠ g → (w'.setRow g cs).heap[k]? = w'.heap[k]? := fun w' g k cs h => setRow_other _ _ _ _ h
  refine wpAnyH_all r2 (by simp) (List.forall_mem_singleton.2 ?_)
  refine wpOp_store h2 k2 e2 ty (.tmp y0) (.tmp d0) p2 g0 A (by rw [Act.eval_put_ne _ _ _ _ m4, Act.eval_put_ne _ _ _ _ m2]; exact v2) (by rw [Act.eval_put_ne _ _ _ _ m6]; exact Act.eval_put_same _ _ _ hd0) ty C w2 iA sC oA ?_
  refine ⟨⟨by rw [oth _ _ _ _ n00]; exact w0, by rw [oth _ _ _ _ n10]; exact w1⟩, ?_⟩
  change wpAnyH P .any ops Q _ 1 #[true, true, true, false] _ _
  refine wpAnyH_all r3 (by simp) (List.forall_mem_singleton.2 ?_)
  refine wpOp_store h3 k3 e3 ty (.tmp y1) (.tmp d1) p3 g1 B (by rw [Act.eval_put_ne _ _ _ _ m5, Act.eval_put_ne _ _ _ _ m3]; exact v3) (Act.eval_put_same _ _ _ (by rw [sz]; exact hd1)) ty D (by rw [oth _ _ _ _ ng]; exact w3) iB sD oB ?_
  refine ⟨⟨by rw [oth _ _ _ _ n01, oth _ _ _ _ n00]; exact w0, by rw [oth _ _ _ _ n11, oth _ _ _ _ n10]; exact w1⟩, ?_⟩
  exact wpAnyH_done r4 hK _
end
end Go.Proofs.Ythlmphloalbhnaa
