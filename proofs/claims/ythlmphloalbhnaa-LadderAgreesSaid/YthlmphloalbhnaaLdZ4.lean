/-
  Texts of this seat, put together: LdG, LdH, RFj, RFm, LdC, LdI, LdJ, LdK, OpenArr, OpenN.
-/
import Derived.Test.YthlmphloalbhnaaLdZ3
import Derived.Deep.MidRow
import Derived.Lib.SmallJoins
import Derived.ProofKit
import Derived.OpenShut
import Derived.ChangeOld
import Derived.Below

/-
  ladder.swap, step: the walks.
-/
namespace Go.Proofs.Ythlmphloalbhnaa
open Go.RowKit MS

section
variable {P : Program}
/-- One variable made. -/
theorem wp_region_makes1 {id : Nat} {Q : Exit → Act → World → Prop} {a : Act} {w : World} {l : List Oper} (n d : Nat) (ob : Obj) (hm : P.follows .mixedOrders = true) (hB : Region.lexTailB .any l.toArray (n + 1) = true)
    (hd : dstB a.tmps.size (l.take n) = true) (hmk : Maker P l.toArray n d ob)
    (h : ∃ A, (∀ p, Below w.heap.size w p → wpQuiet P l.toArray (fun w' => ∃ q : BW p, w' = q.1) (fun a' => a' = A) (l.take n) a) ∧
      ∀ g w', w.heap.size ≤ g → Below w.heap.size w w' → w'.heap[g]? = some ob → wpList P l.toArray Q (l.drop (n + 1)) (A.put (some d) (.pointer (some ⟨g, 0, none⟩))) w') : (Code.region id l.toArray true).wp P Q a w := by
  obtain ⟨A, hq, ht⟩ := h
  refine wp_region_makes n 1 (fun _ => (d, ob)) hm hB hd (fun j h1 h2 => ?_) ⟨A, hq, ?_⟩
  · obtain rfl : j = n := by omega
    exact hmk
  · intro g hg _ w' hb hr
    exact ht g w' hg hb (hr g _ (updR_same _ _ _))
/-- Two variables made. -/
theorem wp_region_makes2 {id : Nat} {Q : Exit → Act → World → Prop} {a : Act} {w : World} {l : List Oper} (n d1 d2 : Nat) (ob1 ob2 : Obj) (hm : P.follows .mixedOrders = true) (hB : Region.lexTailB .any l.toArray (n + 2) = true)
    (hd : dstB a.tmps.size (l.take n) = true) (hmk1 : Maker P l.toArray n d1 ob1) (hmk2 : Maker P l.toArray (n + 1) d2 ob2)
    (h : ∃ A, (∀ p, Below w.heap.size w p → wpQuiet P l.toArray (fun w' => ∃ q : BW p, w' = q.1) (fun a' => a' = A) (l.take n) a) ∧
      ∀ g1 g2 w', w.heap.size ≤ g1 → w.heap.size ≤ g2 → g1 ≠ g2 → Below w.heap.size w w' → w'.heap[g1]? = some ob1 → w'.heap[g2]? = some ob2 →
        wpList P l.toArray Q (l.drop (n + 2)) ((A.put (some d1) (.pointer (some ⟨g1, 0, none⟩))).put (some d2) (.pointer (some ⟨g2, 0, none⟩))) w') : (Code.region id l.toArray true).wp P Q a w := by
  obtain ⟨A, hq, ht⟩ := h
  refine wp_region_makes n 2 (fun j => if j = n then (d1, ob1) else (d2, ob2)) hm hB hd (fun j h1 h2 => ?_) ⟨A, hq, ?_⟩
  · by_cases e : j = n
    · subst e
      rw [if_pos rfl]
      exact hmk1
    · obtain rfl : j = n + 1 := by omega
      rw [if_neg e]
      exact hmk2
  · have mk1 : (fun j => if j = n then (d1, ob1) else (d2, ob2)) n = (d1, ob1) := if_pos rfl
    have mk2 : (fun j => if j = n then (d1, ob1) else (d2, ob2)) (n + 1) = (d2, ob2) := if_neg (by omega : ¬ n + 1 = n)
    intro g1 hg1 _ g2 hg2 hn w' hb hr
    rw [mk1] at hn hr
    rw [mk2] at hr
    have hne : g1 ≠ g2 := fun e => by
      rw [← e, updR_same] at hn
      cases hn
    rw [mk1, mk2]
    exact ht g1 g2 w' hg1 hg2 hne hb (hr g1 _ (by rw [updR_ne _ _ hne, updR_same])) (hr g2 _ (updR_same _ _ _))
theorem quiet_run {C : World → Prop} {K : Act → Prop} {a : Act} {o : Oper} {v : Value} (h : ∀ w, C w → (execOp a.eval o).run P w = .ok (.value v) w) (hK : K (a.put o.dst v)) : o.quiet P a C K :=
  ⟨v, fun w hw => by unfold Oper.quietAt; rw [h w hw]; exact ⟨rfl, rfl⟩, hK⟩
theorem run_load_mid {ρ : Operand → Value} {op : Oper} {w : World} (ty : TypeId) (x : Operand) (ho : op.op = .load ty x) (b o : Nat) (hx : ρ x = .pointer (some ⟨b, o, none⟩)) (cs : List Value) (d : TypeDesc) (hc : w.rangeAt b o cs)
    (hu : P.underlying ty = some d) (hd : d.isRow = true) (hi : (P.info? ty).map (·.size) = some cs.length) : (execOp ρ op).run P w = .ok (.value (.agg cs.toArray)) w := by
  unfold execOp
  simp only [ho, hx, Sem.run_bind, run_loadAt_mid w b o ty cs d hc hu hd hi, Result.andThen_ok, Sem.run_pure]
end

/-- The cells of a pair of numbers. -/
def pvA (x z : N5) : Array Value := #[.int .u64 (x.a : Int), .int .u64 (x.b : Int), .int .u64 (x.c : Int), .int .u64 (x.d : Int), .int .u64 (x.e : Int), .int .u64 (z.a : Int), .int .u64 (z.b : Int), .int .u64 (z.c : Int), .int .u64 (z.d : Int), .int .u64 (z.e : Int)]
theorem infoP (x z : N5) : (Try.prog.info? 69).map (·.size) = some (pvA x z).size := by
  show (Try.prog.info? 69).map (·.size) = some 10
  kernel_rfl
theorem one_pvA (x z : N5) : (pvA x z).all (·.oneCell') = true := by simp [pvA, Value.oneCell']
theorem pair_x {w : World} {g : Nat} {x z : N5} {T : Nat} (hb : w.heap[g]? = some (.cells (pvA x z) T (0, 0))) : w.rangeAt g 0 (nvA x).toList := World.rangeAt_of_block hb 0 5
theorem pair_z {w : World} {g : Nat} {x z : N5} {T : Nat} (hb : w.heap[g]? = some (.cells (pvA x z) T (0, 0))) : w.rangeAt g 5 (nvA z).toList := World.rangeAt_of_block hb 5 5
theorem infoL (x : N5) : (Try.prog.info? 24).map (·.size) = some (nvA x).toList.length := infoV x
theorem run_x {ρ : Operand → Value} {op : Oper} {w : World} {g : Nat} {x z : N5} {T : Nat} (y : Operand) (ho : op.op = .load 24 y) (hx : ρ y = .pointer (some ⟨g, 0, none⟩)) (hb : w.heap[g]? = some (.cells (pvA x z) T (0, 0))) :
    (execOp ρ op).run Try.prog w = .ok (.value (.agg (nvA x))) w := run_load_mid 24 y ho g 0 hx (nvA x).toList _ (pair_x hb) Try.underlying24 rfl (infoL x)
theorem run_z {ρ : Operand → Value} {op : Oper} {w : World} {g : Nat} {x z : N5} {T : Nat} (y : Operand) (ho : op.op = .load 24 y) (hx : ρ y = .pointer (some ⟨g, 5, none⟩)) (hb : w.heap[g]? = some (.cells (pvA x z) T (0, 0))) :
    (execOp ρ op).run Try.prog w = .ok (.value (.agg (nvA z))) w := run_load_mid 24 y ho g 5 hx (nvA z).toList _ (pair_z hb) Try.underlying24 rfl (infoL z)
theorem run_pair {ρ : Operand → Value} {op : Oper} {w : World} {x z : N5} (p q : Operand) (ho : op.op = .build 69 #[(0, p), (1, q)]) (hp : ρ p = .agg (nvA x)) (hq : ρ q = .agg (nvA z)) :
    (execOp ρ op).run Try.prog w = .ok (.value (.agg (pvA x z))) w := by
  unfold execOp
  simp only [ho, List.map_toArray, List.map_cons, List.map_nil, hp, hq]
  unfold nvA pvA
  go_simp
theorem rw_made2 {w0 w w' : World} {l : List Blk} (h : Rw w0 l w) {g k : Nat} {cs ds : Array Value} {T S : TypeId} (hb : Below w.heap.size w w') (hg : w.heap.size ≤ g) (hk : w.heap.size ≤ k) (hne : g ≠ k) (hr : w'.heap[g]? = some (.cells cs T (0, 0))) (hs : w'.heap[k]? = some (.cells ds S (0, 0))) : Rw w0 (l ++ [(g, cs, T)] ++ [(k, ds, S)]) w' := by
  refine rw_add (rw_made h hb hg hr) (fun r hr' => ?_) (Nat.le_trans h.bel.size hk) hs
  rcases List.mem_append.1 hr' with h1 | h1
  · have := h.lt r h1
    omega
  · rw [List.mem_singleton.1 h1]
    exact hne

/-- What step makes: the double, and the sum. -/
def dblX (px pz : N5) : N5 := mul (mul (add px pz) (add px pz)) (mul (sub px pz) (sub px pz))
def dblE (px pz : N5) : N5 := sub (mul (add px pz) (add px pz)) (mul (sub px pz) (sub px pz))
def dblZ (px pz : N5) : N5 := mul (dblE px pz) (add (mul (add px pz) (add px pz)) (mul (dblE px pz) ⟨121665, 0, 0, 0, 0⟩))
def dda (px pz qx qz : N5) : N5 := mul (sub qx qz) (add px pz)
def dcb (px pz qx qz : N5) : N5 := mul (add qx qz) (sub px pz)
def addX (px pz qx qz : N5) : N5 := mul (add (dda px pz qx qz) (dcb px pz qx qz)) (add (dda px pz qx qz) (dcb px pz qx qz))
def addZ (u px pz qx qz : N5) : N5 := mul u (mul (sub (dda px pz qx qz) (dcb px pz qx qz)) (sub (dda px pz qx qz) (dcb px pz qx qz)))

set_option maxRecDepth 1000000 in
set_option maxHeartbeats 8000000 in
theorem step_any (u px pz qx qz : N5) (hu : u.ok) (hpx : px.ok) (hpz : pz.ok) (hqx : qx.ok) (hqz : qz.ok) (w : World) :
    Calls Try.prog 50 #[.agg (nvA u), .agg (pvA px pz), .agg (pvA qx qz)] w fun e w' => e = .returned (.tuple #[.agg (pvA (dblX px pz) (dblZ px pz)), .agg (pvA (addX px pz qx qz) (addZ u px pz qx qz))]) ∧ Below w.heap.size w w' := by
  obtain ⟨sum, esum⟩ : ∃ x, x = add px pz := ⟨_, rfl⟩
  have hsum : sum.ok := by rw [esum]; exact add_ok hpx hpz
  obtain ⟨dif, edif⟩ : ∃ x, x = sub px pz := ⟨_, rfl⟩
  have hdif : dif.ok := by rw [edif]; exact sub_ok hpx
  obtain ⟨s2, es2⟩ : ∃ x, x = mul sum sum := ⟨_, rfl⟩
  have hs2 : s2.ok := by rw [es2]; exact mul_ok hsum hsum
  obtain ⟨d2, ed2⟩ : ∃ x, x = mul dif dif := ⟨_, rfl⟩
  have hd2 : d2.ok := by rw [ed2]; exact mul_ok hdif hdif
  obtain ⟨e, ee⟩ : ∃ x, x = sub s2 d2 := ⟨_, rfl⟩
  have he : e.ok := by rw [ee]; exact sub_ok hs2
  obtain ⟨qm, eqm⟩ : ∃ x, x = sub qx qz := ⟨_, rfl⟩
  have hqm : qm.ok := by rw [eqm]; exact sub_ok hqx
  obtain ⟨da, eda⟩ : ∃ x, x = mul qm sum := ⟨_, rfl⟩
  have hda : da.ok := by rw [eda]; exact mul_ok hqm hsum
  obtain ⟨qp, eqp⟩ : ∃ x, x = add qx qz := ⟨_, rfl⟩
  have hqp : qp.ok := by rw [eqp]; exact add_ok hqx hqz
  obtain ⟨cb, ecb⟩ : ∃ x, x = mul qp dif := ⟨_, rfl⟩
  have hcb : cb.ok := by rw [ecb]; exact mul_ok hqp hdif
  obtain ⟨pl, epl⟩ : ∃ x, x = add da cb := ⟨_, rfl⟩
  have hpl : pl.ok := by rw [epl]; exact add_ok hda hcb
  obtain ⟨mi, emi⟩ : ∃ x, x = sub da cb := ⟨_, rfl⟩
  have hmi : mi.ok := by rw [emi]; exact sub_ok hda
  obtain ⟨X, eX⟩ : ∃ x, x = mul s2 d2 := ⟨_, rfl⟩
  have hX : X.ok := by rw [eX]; exact mul_ok hs2 hd2
  obtain ⟨k, ek⟩ : ∃ x, x = mul e ⟨121665, 0, 0, 0, 0⟩ := ⟨_, rfl⟩
  have hk : k.ok := by rw [ek]; exact mul_ok he (small_ok 121665 (by decide))
  obtain ⟨sk, esk⟩ : ∃ x, x = add s2 k := ⟨_, rfl⟩
  have hsk : sk.ok := by rw [esk]; exact add_ok hs2 hk
  obtain ⟨Z, eZ⟩ : ∃ x, x = mul e sk := ⟨_, rfl⟩
  have hZ : Z.ok := by rw [eZ]; exact mul_ok he hsk
  obtain ⟨Pp, ePp⟩ : ∃ x, x = mul pl pl := ⟨_, rfl⟩
  have hPp : Pp.ok := by rw [ePp]; exact mul_ok hpl hpl
  obtain ⟨m2, em2⟩ : ∃ x, x = mul mi mi := ⟨_, rfl⟩
  have hm2 : m2.ok := by rw [em2]; exact mul_ok hmi hmi
  obtain ⟨Rr, eRr⟩ : ∃ x, x = mul u m2 := ⟨_, rfl⟩
  have hRr : Rr.ok := by rw [eRr]; exact mul_ok hu hm2
  have fX : dblX px pz = X := by subst eRr em2 ePp eZ esk ek eX emi epl ecb eqp eda eqm ee ed2 es2 edif esum; rfl
  have fZ : dblZ px pz = Z := by subst eRr em2 ePp eZ esk ek eX emi epl ecb eqp eda eqm ee ed2 es2 edif esum; rfl
  have fP : addX px pz qx qz = Pp := by subst eRr em2 ePp eZ esk ek eX emi epl ecb eqp eda eqm ee ed2 es2 edif esum; rfl
  have fR : addZ u px pz qx qz = Rr := by subst eRr em2 ePp eZ esk ek eX emi epl ecb eqp eda eqm ee ed2 es2 edif esum; rfl
  rw [fX, fZ, fP, fR]
  have Csum := Lib.hid (fun w => feadd_any px pz hpx hpz w)
  rw [← esum] at Csum
  have Cdif := Lib.hid (fun w => fesub_any px pz hpx hpz w)
  rw [← edif] at Cdif
  have Cs2 := Lib.hid (fun w => femul_any sum sum hsum hsum w)
  rw [← es2] at Cs2
  have Cd2 := Lib.hid (fun w => femul_any dif dif hdif hdif w)
  rw [← ed2] at Cd2
  have Ce := Lib.hid (fun w => fesub_any s2 d2 hs2 hd2 w)
  rw [← ee] at Ce
  have Cqm := Lib.hid (fun w => fesub_any qx qz hqx hqz w)
  rw [← eqm] at Cqm
  have Cda := Lib.hid (fun w => femul_any qm sum hqm hsum w)
  rw [← eda] at Cda
  have Cqp := Lib.hid (fun w => feadd_any qx qz hqx hqz w)
  rw [← eqp] at Cqp
  have Ccb := Lib.hid (fun w => femul_any qp dif hqp hdif w)
  rw [← ecb] at Ccb
  have Cpl := Lib.hid (fun w => feadd_any da cb hda hcb w)
  rw [← epl] at Cpl
  have Cmi := Lib.hid (fun w => fesub_any da cb hda hcb w)
  rw [← emi] at Cmi
  have CX := Lib.hid (fun w => femul_any s2 d2 hs2 hd2 w)
  rw [← eX] at CX
  have Ck := Lib.hid (fun w => fesmall_any e 121665 he (by decide) w)
  rw [← ek, show ((121665 : Nat) : Int) = 121665 from rfl] at Ck
  have Csk := Lib.hid (fun w => feadd_any s2 k hs2 hk w)
  rw [← esk] at Csk
  have CZ := Lib.hid (fun w => femul_any e sk he hsk w)
  rw [← eZ] at CZ
  have CPp := Lib.hid (fun w => femul_any pl pl hpl hpl w)
  rw [← ePp] at CPp
  have Cm2 := Lib.hid (fun w => femul_any mi mi hmi hmi w)
  rw [← em2] at Cm2
  have CRr := Lib.hid (fun w => femul_any u m2 hu hm2 w)
  rw [← eRr] at CRr
  have R0 := Lib.hid (show Rw w [(w.heap.size, nvA u, 24), (w.heap.size + 1, pvA px pz, 69), (w.heap.size + 1 + 1, pvA qx qz, 69), (w.heap.size + 1 + 1 + 1, #[.int .u64 0, .int .u64 0, .int .u64 0, .int .u64 0, .int .u64 0, .int .u64 0, .int .u64 0, .int .u64 0, .int .u64 0, .int .u64 0], 69), (w.heap.size + 1 + 1 + 1 + 1, #[.int .u64 0, .int .u64 0, .int .u64 0, .int .u64 0, .int .u64 0, .int .u64 0, .int .u64 0, .int .u64 0, .int .u64 0, .int .u64 0], 69)] (((((w.alloc (.cells (nvA u) 24 (0, 0))).alloc (.cells (pvA px pz) 69 (0, 0))).alloc (.cells (pvA qx qz) 69 (0, 0))).alloc (.cells #[.int .u64 0, .int .u64 0, .int .u64 0, .int .u64 0, .int .u64 0, .int .u64 0, .int .u64 0, .int .u64 0, .int .u64 0, .int .u64 0] 69 (0, 0))).alloc (.cells #[.int .u64 0, .int .u64 0, .int .u64 0, .int .u64 0, .int .u64 0, .int .u64 0, .int .u64 0, .int .u64 0, .int .u64 0, .int .u64 0] 69 (0, 0))) from by
    have := (((((Rw.nil w).alloc (nvA u) 24).alloc (pvA px pz) 69).alloc (pvA qx qz) 69).alloc #[.int .u64 0, .int .u64 0, .int .u64 0, .int .u64 0, .int .u64 0, .int .u64 0, .int .u64 0, .int .u64 0, .int .u64 0, .int .u64 0] 69).alloc #[.int .u64 0, .int .u64 0, .int .u64 0, .int .u64 0, .int .u64 0, .int .u64 0, .int .u64 0, .int .u64 0, .int .u64 0, .int .u64 0] 69
    simp only [World.size_alloc] at this
    exact this)
  clear fX fZ fP fR esum edif es2 ed2 ee eqm eda eqp ecb epl emi eX ek esk eZ ePp em2 eRr hsum hdif hs2 hd2 he hqm hda hqp hcb hpl hmi hX hk hsk hZ hPp hm2 hRr hu hpx hpz hqx hqz
  go_enter Try.func50, Try.ntmps50
  go_upto_region 1 with fail
  generalize ((((w.alloc (.cells (nvA u) 24 (0, 0))).alloc (.cells (pvA px pz) 69 (0, 0))).alloc (.cells (pvA qx qz) 69 (0, 0))).alloc (.cells #[.int .u64 0, .int .u64 0, .int .u64 0, .int .u64 0, .int .u64 0, .int .u64 0, .int .u64 0, .int .u64 0, .int .u64 0, .int .u64 0] 69 (0, 0))).alloc (.cells #[.int .u64 0, .int .u64 0, .int .u64 0, .int .u64 0, .int .u64 0, .int .u64 0, .int .u64 0, .int .u64 0, .int .u64 0, .int .u64 0] 69 (0, 0)) = W0 at R0 ⊢
  generalize w.heap.size + 1 + 1 + 1 + 1 = g7 at *
  generalize w.heap.size + 1 + 1 + 1 = g6 at *
  generalize w.heap.size + 1 + 1 = g5 at *
  generalize w.heap.size + 1 = g4 at *
  generalize w.heap.size = g3 at R0 ⊢
  refine wp_region_makes2 10 8 9 (.cells #[.int .u64 0, .int .u64 0, .int .u64 0, .int .u64 0, .int .u64 0] 24 (0, 0)) (.cells #[.int .u64 0, .int .u64 0, .int .u64 0, .int .u64 0, .int .u64 0] 24 (0, 0)) (by kernel_rfl) (by kernel_rfl) (by rfl) ⟨_, rfl, rfl, fun _ => rfl, fun _ _ => by go_simp⟩ ⟨_, rfl, rfl, fun _ => rfl, fun _ _ => by go_simp⟩ ?_
  apply Exists.intro
  refine ⟨?_, ?_⟩
  · intro p hp
    have RP := Lib.hid (R0.out.on hp)
    simp only [List.take_succ_cons, List.take_zero]
    go_big_quiet_step (fail)
    go_big_quiet_want
    refine quiet_run (v := .agg (nvA px)) ?_ ?_
    · rintro w' ⟨q, rfl⟩
      exact run_x (.tmp 19) (by rfl) (by rfl) ((RP.out.on q.2).row 1)
    simp only [Act.put, List.setIfInBounds_toArray, List.set_cons_zero, List.set_cons_succ]
    go_big_quiet_on
    go_big_quiet_step (fail)
    go_big_quiet_want
    refine quiet_run (v := .agg (nvA pz)) ?_ ?_
    · rintro w' ⟨q, rfl⟩
      exact run_z (.tmp 21) (by rfl) (by rfl) ((RP.out.on q.2).row 1)
    simp only [Act.put, List.setIfInBounds_toArray, List.set_cons_zero, List.set_cons_succ]
    go_big_quiet_on
    go_big_quiet_step (exact calls_below (Csum.out _))
    go_big_quiet_step (fail)
    go_big_quiet_want
    refine quiet_run (v := .agg (nvA px)) ?_ ?_
    · rintro w' ⟨q, rfl⟩
      exact run_x (.tmp 24) (by rfl) (by rfl) ((RP.out.on q.2).row 1)
    simp only [Act.put, List.setIfInBounds_toArray, List.set_cons_zero, List.set_cons_succ]
    go_big_quiet_on
    go_big_quiet_step (fail)
    go_big_quiet_want
    refine quiet_run (v := .agg (nvA pz)) ?_ ?_
    · rintro w' ⟨q, rfl⟩
      exact run_z (.tmp 26) (by rfl) (by rfl) ((RP.out.on q.2).row 1)
    simp only [Act.put, List.setIfInBounds_toArray, List.set_cons_zero, List.set_cons_succ]
    go_big_quiet_on
    go_big_quiet_step (exact calls_below (Cdif.out _))
    exact wpQuiet_nil rfl
  intro b8 b9 w1 hg hg2 hne hb hr hr2
  have RA := Lib.hid (show Rw w [(g3, nvA u, 24), (g4, pvA px pz, 69), (g5, pvA qx qz, 69), (g6, #[.int .u64 0, .int .u64 0, .int .u64 0, .int .u64 0, .int .u64 0, .int .u64 0, .int .u64 0, .int .u64 0, .int .u64 0, .int .u64 0], 69), (g7, #[.int .u64 0, .int .u64 0, .int .u64 0, .int .u64 0, .int .u64 0, .int .u64 0, .int .u64 0, .int .u64 0, .int .u64 0, .int .u64 0], 69), (b8, #[.int .u64 0, .int .u64 0, .int .u64 0, .int .u64 0, .int .u64 0], 24), (b9, #[.int .u64 0, .int .u64 0, .int .u64 0, .int .u64 0, .int .u64 0], 24)] w1 from rw_made2 R0.out hb hg hg2 hne hr hr2)
  have RB := Lib.hid (RA.out.store 5 (nvA sum))
  have RC := Lib.hid (RA.out.row 5)
  have RD := Lib.hid (RB.out.row 6)
  have RE := Lib.hid (RB.out.store 6 (nvA dif))
  have R1 := Lib.hid (show Rw w [(g3, nvA u, 24), (g4, pvA px pz, 69), (g5, pvA qx qz, 69), (g6, #[.int .u64 0, .int .u64 0, .int .u64 0, .int .u64 0, .int .u64 0, .int .u64 0, .int .u64 0, .int .u64 0, .int .u64 0, .int .u64 0], 69), (g7, #[.int .u64 0, .int .u64 0, .int .u64 0, .int .u64 0, .int .u64 0, .int .u64 0, .int .u64 0, .int .u64 0, .int .u64 0, .int .u64 0], 69), (b8, nvA sum, 24), (b9, nvA dif, 24)] _ from RE.out)
  clear hb hg hr hg2 hr2 hne R0 RA RB RE
  simp only [List.drop_succ_cons, List.drop_zero, Act.put, List.setIfInBounds_toArray, List.set_cons_zero, List.set_cons_succ]
  go_upto_region 2 with (first
    | (with_reducible refine wpList_store_row rfl 24 (.tmp 8) (.tmp 23) rfl b8 (nvA sum) rfl rfl 24 #[.int .u64 0, .int .u64 0, .int .u64 0, .int .u64 0, .int .u64 0] RC.out (infoV sum) rfl (one_nvA sum) ?_)
    | (with_reducible refine wpList_store_row rfl 24 (.tmp 9) (.tmp 28) rfl b9 (nvA dif) rfl rfl 24 #[.int .u64 0, .int .u64 0, .int .u64 0, .int .u64 0, .int .u64 0] RD.out (infoV dif) rfl (one_nvA dif) ?_))
  simp only [Act.put]
  clear RC RD
  generalize (w1.setRow b8 (nvA sum)).setRow b9 (nvA dif) = W1 at R1 ⊢
  refine wp_region_makes2 6 10 11 (.cells #[.int .u64 0, .int .u64 0, .int .u64 0, .int .u64 0, .int .u64 0] 24 (0, 0)) (.cells #[.int .u64 0, .int .u64 0, .int .u64 0, .int .u64 0, .int .u64 0] 24 (0, 0)) (by kernel_rfl) (by kernel_rfl) (by rfl) ⟨_, rfl, rfl, fun _ => rfl, fun _ _ => by go_simp⟩ ⟨_, rfl, rfl, fun _ => rfl, fun _ _ => by go_simp⟩ ?_
  apply Exists.intro
  refine ⟨?_, ?_⟩
  · intro p hp
    have RP := Lib.hid (R1.out.on hp)
    simp only [List.take_succ_cons, List.take_zero]
    go_big_quiet_want
    refine quiet_run (v := .agg (nvA sum)) ?_ ?_
    · rintro w' ⟨q, rfl⟩
      exact run_load_row 24 (.tmp 8) (by rfl) b8 (by rfl) 24 (nvA sum) (0, 0) _ ((RP.out.on q.2).row 5) Try.underlying24 rfl (infoV sum)
    simp only [Act.put, List.setIfInBounds_toArray, List.set_cons_zero, List.set_cons_succ]
    go_big_quiet_on
    go_big_quiet_want
    refine quiet_run (v := .agg (nvA sum)) ?_ ?_
    · rintro w' ⟨q, rfl⟩
      exact run_load_row 24 (.tmp 8) (by rfl) b8 (by rfl) 24 (nvA sum) (0, 0) _ ((RP.out.on q.2).row 5) Try.underlying24 rfl (infoV sum)
    simp only [Act.put, List.setIfInBounds_toArray, List.set_cons_zero, List.set_cons_succ]
    go_big_quiet_on
    go_big_quiet_step (exact calls_below (Cs2.out _))
    go_big_quiet_want
    refine quiet_run (v := .agg (nvA dif)) ?_ ?_
    · rintro w' ⟨q, rfl⟩
      exact run_load_row 24 (.tmp 9) (by rfl) b9 (by rfl) 24 (nvA dif) (0, 0) _ ((RP.out.on q.2).row 6) Try.underlying24 rfl (infoV dif)
    simp only [Act.put, List.setIfInBounds_toArray, List.set_cons_zero, List.set_cons_succ]
    go_big_quiet_on
    go_big_quiet_want
    refine quiet_run (v := .agg (nvA dif)) ?_ ?_
    · rintro w' ⟨q, rfl⟩
      exact run_load_row 24 (.tmp 9) (by rfl) b9 (by rfl) 24 (nvA dif) (0, 0) _ ((RP.out.on q.2).row 6) Try.underlying24 rfl (infoV dif)
    simp only [Act.put, List.setIfInBounds_toArray, List.set_cons_zero, List.set_cons_succ]
    go_big_quiet_on
    go_big_quiet_step (exact calls_below (Cd2.out _))
    exact wpQuiet_nil rfl
  intro b10 b11 w2 hg hg2 hne hb hr hr2
  have RA := Lib.hid (show Rw w [(g3, nvA u, 24), (g4, pvA px pz, 69), (g5, pvA qx qz, 69), (g6, #[.int .u64 0, .int .u64 0, .int .u64 0, .int .u64 0, .int .u64 0, .int .u64 0, .int .u64 0, .int .u64 0, .int .u64 0, .int .u64 0], 69), (g7, #[.int .u64 0, .int .u64 0, .int .u64 0, .int .u64 0, .int .u64 0, .int .u64 0, .int .u64 0, .int .u64 0, .int .u64 0, .int .u64 0], 69), (b8, nvA sum, 24), (b9, nvA dif, 24), (b10, #[.int .u64 0, .int .u64 0, .int .u64 0, .int .u64 0, .int .u64 0], 24), (b11, #[.int .u64 0, .int .u64 0, .int .u64 0, .int .u64 0, .int .u64 0], 24)] w2 from rw_made2 R1.out hb hg hg2 hne hr hr2)
  have RB := Lib.hid (RA.out.store 7 (nvA s2))
  have RC := Lib.hid (RA.out.row 7)
  have RD := Lib.hid (RB.out.row 8)
  have RE := Lib.hid (RB.out.store 8 (nvA d2))
  have R2 := Lib.hid (show Rw w [(g3, nvA u, 24), (g4, pvA px pz, 69), (g5, pvA qx qz, 69), (g6, #[.int .u64 0, .int .u64 0, .int .u64 0, .int .u64 0, .int .u64 0, .int .u64 0, .int .u64 0, .int .u64 0, .int .u64 0, .int .u64 0], 69), (g7, #[.int .u64 0, .int .u64 0, .int .u64 0, .int .u64 0, .int .u64 0, .int .u64 0, .int .u64 0, .int .u64 0, .int .u64 0, .int .u64 0], 69), (b8, nvA sum, 24), (b9, nvA dif, 24), (b10, nvA s2, 24), (b11, nvA d2, 24)] _ from RE.out)
  clear hb hg hr hg2 hr2 hne R1 RA RB RE
  simp only [List.drop_succ_cons, List.drop_zero, Act.put, List.setIfInBounds_toArray, List.set_cons_zero, List.set_cons_succ]
  go_upto_region 3 with (first
    | (with_reducible refine wpList_store_row rfl 24 (.tmp 10) (.tmp 31) rfl b10 (nvA s2) rfl rfl 24 #[.int .u64 0, .int .u64 0, .int .u64 0, .int .u64 0, .int .u64 0] RC.out (infoV s2) rfl (one_nvA s2) ?_)
    | (with_reducible refine wpList_store_row rfl 24 (.tmp 11) (.tmp 34) rfl b11 (nvA d2) rfl rfl 24 #[.int .u64 0, .int .u64 0, .int .u64 0, .int .u64 0, .int .u64 0] RD.out (infoV d2) rfl (one_nvA d2) ?_))
  simp only [Act.put]
  clear RC RD
  generalize (w2.setRow b10 (nvA s2)).setRow b11 (nvA d2) = W2 at R2 ⊢
  have RX := Lib.hid (R2.out.row 7)
  have RY := Lib.hid (R2.out.row 8)
  go_wp2_with (first
    | (with_reducible refine wpList_load_row rfl 24 (.tmp 10) rfl b10 rfl 24 (nvA s2) (0, 0) _ RX.out Try.underlying24 rfl (infoV s2) ?_)
    | (with_reducible refine wpList_load_row rfl 24 (.tmp 11) rfl b11 rfl 24 (nvA d2) (0, 0) _ RY.out Try.underlying24 rfl (infoV d2) ?_))
  refine (Ce.out _).mono ?_
  rintro e w3 ⟨rfl, hb⟩
  have RA := Lib.hid ((R2.out.on hb).alloc #[.int .u64 0, .int .u64 0, .int .u64 0, .int .u64 0, .int .u64 0] 24)
  have RB := Lib.hid (RA.out.store 9 (nvA e))
  have RC := Lib.hid (RA.out.row 9)
  have R3 := Lib.hid (show Rw w [(g3, nvA u, 24), (g4, pvA px pz, 69), (g5, pvA qx qz, 69), (g6, #[.int .u64 0, .int .u64 0, .int .u64 0, .int .u64 0, .int .u64 0, .int .u64 0, .int .u64 0, .int .u64 0, .int .u64 0, .int .u64 0], 69), (g7, #[.int .u64 0, .int .u64 0, .int .u64 0, .int .u64 0, .int .u64 0, .int .u64 0, .int .u64 0, .int .u64 0, .int .u64 0, .int .u64 0], 69), (b8, nvA sum, 24), (b9, nvA dif, 24), (b10, nvA s2, 24), (b11, nvA d2, 24), (w3.heap.size, nvA e, 24)] _ from RB.out)
  clear hb RX RY R2 RA RB
  go_upto_region 4 with (with_reducible refine wpList_store_row rfl 24 (.tmp 12) (.tmp 37) rfl w3.heap.size (nvA e) rfl rfl 24 #[.int .u64 0, .int .u64 0, .int .u64 0, .int .u64 0, .int .u64 0] RC.out (infoV e) rfl (one_nvA e) ?_)
  simp only [Act.put]
  clear RC
  generalize (w3.alloc (.cells #[.int .u64 0, .int .u64 0, .int .u64 0, .int .u64 0, .int .u64 0] 24 (0, 0))).setRow w3.heap.size (nvA e) = W3 at R3 ⊢
  generalize w3.heap.size = b12 at R3 ⊢
  refine wp_region_makes1 7 13 (.cells #[.int .u64 0, .int .u64 0, .int .u64 0, .int .u64 0, .int .u64 0] 24 (0, 0)) (by kernel_rfl) (by kernel_rfl) (by rfl) ⟨_, rfl, rfl, fun _ => rfl, fun _ _ => by go_simp⟩ ?_
  apply Exists.intro
  refine ⟨?_, ?_⟩
  · intro p hp
    have RP := Lib.hid (R3.out.on hp)
    simp only [List.take_succ_cons, List.take_zero]
    go_big_quiet_step (fail)
    go_big_quiet_want
    refine quiet_run (v := .agg (nvA qx)) ?_ ?_
    · rintro w' ⟨q, rfl⟩
      exact run_x (.tmp 38) (by rfl) (by rfl) ((RP.out.on q.2).row 2)
    simp only [Act.put, List.setIfInBounds_toArray, List.set_cons_zero, List.set_cons_succ]
    go_big_quiet_on
    go_big_quiet_step (fail)
    go_big_quiet_want
    refine quiet_run (v := .agg (nvA qz)) ?_ ?_
    · rintro w' ⟨q, rfl⟩
      exact run_z (.tmp 40) (by rfl) (by rfl) ((RP.out.on q.2).row 2)
    simp only [Act.put, List.setIfInBounds_toArray, List.set_cons_zero, List.set_cons_succ]
    go_big_quiet_on
    go_big_quiet_step (exact calls_below (Cqm.out _))
    go_big_quiet_want
    refine quiet_run (v := .agg (nvA sum)) ?_ ?_
    · rintro w' ⟨q, rfl⟩
      exact run_load_row 24 (.tmp 8) (by rfl) b8 (by rfl) 24 (nvA sum) (0, 0) _ ((RP.out.on q.2).row 5) Try.underlying24 rfl (infoV sum)
    simp only [Act.put, List.setIfInBounds_toArray, List.set_cons_zero, List.set_cons_succ]
    go_big_quiet_on
    go_big_quiet_step (exact calls_below (Cda.out _))
    exact wpQuiet_nil rfl
  intro b13 w4 hg hb hr
  have RA := Lib.hid (rw_made R3.out hb hg hr)
  have RB := Lib.hid (RA.out.store 10 (nvA da))
  have RC := Lib.hid (RA.out.row 10)
  have R4 := Lib.hid (show Rw w [(g3, nvA u, 24), (g4, pvA px pz, 69), (g5, pvA qx qz, 69), (g6, #[.int .u64 0, .int .u64 0, .int .u64 0, .int .u64 0, .int .u64 0, .int .u64 0, .int .u64 0, .int .u64 0, .int .u64 0, .int .u64 0], 69), (g7, #[.int .u64 0, .int .u64 0, .int .u64 0, .int .u64 0, .int .u64 0, .int .u64 0, .int .u64 0, .int .u64 0, .int .u64 0, .int .u64 0], 69), (b8, nvA sum, 24), (b9, nvA dif, 24), (b10, nvA s2, 24), (b11, nvA d2, 24), (b12, nvA e, 24), (b13, nvA da, 24)] _ from RB.out)
  clear hb hg hr R3 RA RB
  simp only [List.drop_succ_cons, List.drop_zero, Act.put, List.setIfInBounds_toArray, List.set_cons_zero, List.set_cons_succ]
  go_upto_region 5 with (with_reducible refine wpList_store_row rfl 24 (.tmp 13) (.tmp 44) rfl b13 (nvA da) rfl rfl 24 #[.int .u64 0, .int .u64 0, .int .u64 0, .int .u64 0, .int .u64 0] RC.out (infoV da) rfl (one_nvA da) ?_)
  simp only [Act.put]
  clear RC
  generalize w4.setRow b13 (nvA da) = W4 at R4 ⊢
  refine wp_region_makes1 7 14 (.cells #[.int .u64 0, .int .u64 0, .int .u64 0, .int .u64 0, .int .u64 0] 24 (0, 0)) (by kernel_rfl) (by kernel_rfl) (by rfl) ⟨_, rfl, rfl, fun _ => rfl, fun _ _ => by go_simp⟩ ?_
  apply Exists.intro
  refine ⟨?_, ?_⟩
  · intro p hp
    have RP := Lib.hid (R4.out.on hp)
    simp only [List.take_succ_cons, List.take_zero]
    go_big_quiet_step (fail)
    go_big_quiet_want
    refine quiet_run (v := .agg (nvA qx)) ?_ ?_
    · rintro w' ⟨q, rfl⟩
      exact run_x (.tmp 45) (by rfl) (by rfl) ((RP.out.on q.2).row 2)
    simp only [Act.put, List.setIfInBounds_toArray, List.set_cons_zero, List.set_cons_succ]
    go_big_quiet_on
    go_big_quiet_step (fail)
    go_big_quiet_want
    refine quiet_run (v := .agg (nvA qz)) ?_ ?_
    · rintro w' ⟨q, rfl⟩
      exact run_z (.tmp 47) (by rfl) (by rfl) ((RP.out.on q.2).row 2)
    simp only [Act.put, List.setIfInBounds_toArray, List.set_cons_zero, List.set_cons_succ]
    go_big_quiet_on
    go_big_quiet_step (exact calls_below (Cqp.out _))
    go_big_quiet_want
    refine quiet_run (v := .agg (nvA dif)) ?_ ?_
    · rintro w' ⟨q, rfl⟩
      exact run_load_row 24 (.tmp 9) (by rfl) b9 (by rfl) 24 (nvA dif) (0, 0) _ ((RP.out.on q.2).row 6) Try.underlying24 rfl (infoV dif)
    simp only [Act.put, List.setIfInBounds_toArray, List.set_cons_zero, List.set_cons_succ]
    go_big_quiet_on
    go_big_quiet_step (exact calls_below (Ccb.out _))
    exact wpQuiet_nil rfl
  intro b14 w5 hg hb hr
  have RA := Lib.hid (rw_made R4.out hb hg hr)
  have RB := Lib.hid (RA.out.store 11 (nvA cb))
  have RC := Lib.hid (RA.out.row 11)
  have R5 := Lib.hid (show Rw w [(g3, nvA u, 24), (g4, pvA px pz, 69), (g5, pvA qx qz, 69), (g6, #[.int .u64 0, .int .u64 0, .int .u64 0, .int .u64 0, .int .u64 0, .int .u64 0, .int .u64 0, .int .u64 0, .int .u64 0, .int .u64 0], 69), (g7, #[.int .u64 0, .int .u64 0, .int .u64 0, .int .u64 0, .int .u64 0, .int .u64 0, .int .u64 0, .int .u64 0, .int .u64 0, .int .u64 0], 69), (b8, nvA sum, 24), (b9, nvA dif, 24), (b10, nvA s2, 24), (b11, nvA d2, 24), (b12, nvA e, 24), (b13, nvA da, 24), (b14, nvA cb, 24)] _ from RB.out)
  clear hb hg hr R4 RA RB
  simp only [List.drop_succ_cons, List.drop_zero, Act.put, List.setIfInBounds_toArray, List.set_cons_zero, List.set_cons_succ]
  go_upto_region 6 with (with_reducible refine wpList_store_row rfl 24 (.tmp 14) (.tmp 51) rfl b14 (nvA cb) rfl rfl 24 #[.int .u64 0, .int .u64 0, .int .u64 0, .int .u64 0, .int .u64 0] RC.out (infoV cb) rfl (one_nvA cb) ?_)
  simp only [Act.put]
  clear RC
  generalize w5.setRow b14 (nvA cb) = W5 at R5 ⊢
  refine wp_region_makes2 6 15 16 (.cells #[.int .u64 0, .int .u64 0, .int .u64 0, .int .u64 0, .int .u64 0] 24 (0, 0)) (.cells #[.int .u64 0, .int .u64 0, .int .u64 0, .int .u64 0, .int .u64 0] 24 (0, 0)) (by kernel_rfl) (by kernel_rfl) (by rfl) ⟨_, rfl, rfl, fun _ => rfl, fun _ _ => by go_simp⟩ ⟨_, rfl, rfl, fun _ => rfl, fun _ _ => by go_simp⟩ ?_
  apply Exists.intro
  refine ⟨?_, ?_⟩
  · intro p hp
    have RP := Lib.hid (R5.out.on hp)
    simp only [List.take_succ_cons, List.take_zero]
    go_big_quiet_want
    refine quiet_run (v := .agg (nvA da)) ?_ ?_
    · rintro w' ⟨q, rfl⟩
      exact run_load_row 24 (.tmp 13) (by rfl) b13 (by rfl) 24 (nvA da) (0, 0) _ ((RP.out.on q.2).row 10) Try.underlying24 rfl (infoV da)
    simp only [Act.put, List.setIfInBounds_toArray, List.set_cons_zero, List.set_cons_succ]
    go_big_quiet_on
    go_big_quiet_want
    refine quiet_run (v := .agg (nvA cb)) ?_ ?_
    · rintro w' ⟨q, rfl⟩
      exact run_load_row 24 (.tmp 14) (by rfl) b14 (by rfl) 24 (nvA cb) (0, 0) _ ((RP.out.on q.2).row 11) Try.underlying24 rfl (infoV cb)
    simp only [Act.put, List.setIfInBounds_toArray, List.set_cons_zero, List.set_cons_succ]
    go_big_quiet_on
    go_big_quiet_step (exact calls_below (Cpl.out _))
    go_big_quiet_want
    refine quiet_run (v := .agg (nvA da)) ?_ ?_
    · rintro w' ⟨q, rfl⟩
      exact run_load_row 24 (.tmp 13) (by rfl) b13 (by rfl) 24 (nvA da) (0, 0) _ ((RP.out.on q.2).row 10) Try.underlying24 rfl (infoV da)
    simp only [Act.put, List.setIfInBounds_toArray, List.set_cons_zero, List.set_cons_succ]
    go_big_quiet_on
    go_big_quiet_want
    refine quiet_run (v := .agg (nvA cb)) ?_ ?_
    · rintro w' ⟨q, rfl⟩
      exact run_load_row 24 (.tmp 14) (by rfl) b14 (by rfl) 24 (nvA cb) (0, 0) _ ((RP.out.on q.2).row 11) Try.underlying24 rfl (infoV cb)
    simp only [Act.put, List.setIfInBounds_toArray, List.set_cons_zero, List.set_cons_succ]
    go_big_quiet_on
    go_big_quiet_step (exact calls_below (Cmi.out _))
    exact wpQuiet_nil rfl
  intro b15 b16 w6 hg hg2 hne hb hr hr2
  have RA := Lib.hid (show Rw w [(g3, nvA u, 24), (g4, pvA px pz, 69), (g5, pvA qx qz, 69), (g6, #[.int .u64 0, .int .u64 0, .int .u64 0, .int .u64 0, .int .u64 0, .int .u64 0, .int .u64 0, .int .u64 0, .int .u64 0, .int .u64 0], 69), (g7, #[.int .u64 0, .int .u64 0, .int .u64 0, .int .u64 0, .int .u64 0, .int .u64 0, .int .u64 0, .int .u64 0, .int .u64 0, .int .u64 0], 69), (b8, nvA sum, 24), (b9, nvA dif, 24), (b10, nvA s2, 24), (b11, nvA d2, 24), (b12, nvA e, 24), (b13, nvA da, 24), (b14, nvA cb, 24), (b15, #[.int .u64 0, .int .u64 0, .int .u64 0, .int .u64 0, .int .u64 0], 24), (b16, #[.int .u64 0, .int .u64 0, .int .u64 0, .int .u64 0, .int .u64 0], 24)] w6 from rw_made2 R5.out hb hg hg2 hne hr hr2)
  have RB := Lib.hid (RA.out.store 12 (nvA pl))
  have RC := Lib.hid (RA.out.row 12)
  have RD := Lib.hid (RB.out.row 13)
  have RE := Lib.hid (RB.out.store 13 (nvA mi))
  have R6 := Lib.hid (show Rw w [(g3, nvA u, 24), (g4, pvA px pz, 69), (g5, pvA qx qz, 69), (g6, #[.int .u64 0, .int .u64 0, .int .u64 0, .int .u64 0, .int .u64 0, .int .u64 0, .int .u64 0, .int .u64 0, .int .u64 0, .int .u64 0], 69), (g7, #[.int .u64 0, .int .u64 0, .int .u64 0, .int .u64 0, .int .u64 0, .int .u64 0, .int .u64 0, .int .u64 0, .int .u64 0, .int .u64 0], 69), (b8, nvA sum, 24), (b9, nvA dif, 24), (b10, nvA s2, 24), (b11, nvA d2, 24), (b12, nvA e, 24), (b13, nvA da, 24), (b14, nvA cb, 24), (b15, nvA pl, 24), (b16, nvA mi, 24)] _ from RE.out)
  clear hb hg hr hg2 hr2 hne R5 RA RB RE
  simp only [List.drop_succ_cons, List.drop_zero, Act.put, List.setIfInBounds_toArray, List.set_cons_zero, List.set_cons_succ]
  go_upto_region 7 with (first
    | (with_reducible refine wpList_store_row rfl 24 (.tmp 15) (.tmp 54) rfl b15 (nvA pl) rfl rfl 24 #[.int .u64 0, .int .u64 0, .int .u64 0, .int .u64 0, .int .u64 0] RC.out (infoV pl) rfl (one_nvA pl) ?_)
    | (with_reducible refine wpList_store_row rfl 24 (.tmp 16) (.tmp 57) rfl b16 (nvA mi) rfl rfl 24 #[.int .u64 0, .int .u64 0, .int .u64 0, .int .u64 0, .int .u64 0] RD.out (infoV mi) rfl (one_nvA mi) ?_))
  simp only [Act.put]
  clear RC RD
  generalize (w6.setRow b15 (nvA pl)).setRow b16 (nvA mi) = W6 at R6 ⊢
  refine wp_region_makes1 10 17 (.cells #[.int .u64 0, .int .u64 0, .int .u64 0, .int .u64 0, .int .u64 0, .int .u64 0, .int .u64 0, .int .u64 0, .int .u64 0, .int .u64 0] 69 (0, 0)) (by kernel_rfl) (by kernel_rfl) (by rfl) ⟨_, rfl, rfl, fun _ => rfl, fun _ _ => by go_simp⟩ ?_
  apply Exists.intro
  refine ⟨?_, ?_⟩
  · intro p hp
    have RP := Lib.hid (R6.out.on hp)
    simp only [List.take_succ_cons, List.take_zero]
    go_big_quiet_want
    refine quiet_run (v := .agg (nvA s2)) ?_ ?_
    · rintro w' ⟨q, rfl⟩
      exact run_load_row 24 (.tmp 10) (by rfl) b10 (by rfl) 24 (nvA s2) (0, 0) _ ((RP.out.on q.2).row 7) Try.underlying24 rfl (infoV s2)
    simp only [Act.put, List.setIfInBounds_toArray, List.set_cons_zero, List.set_cons_succ]
    go_big_quiet_on
    go_big_quiet_want
    refine quiet_run (v := .agg (nvA d2)) ?_ ?_
    · rintro w' ⟨q, rfl⟩
      exact run_load_row 24 (.tmp 11) (by rfl) b11 (by rfl) 24 (nvA d2) (0, 0) _ ((RP.out.on q.2).row 8) Try.underlying24 rfl (infoV d2)
    simp only [Act.put, List.setIfInBounds_toArray, List.set_cons_zero, List.set_cons_succ]
    go_big_quiet_on
    go_big_quiet_step (exact calls_below (CX.out _))
    go_big_quiet_want
    refine quiet_run (v := .agg (nvA e)) ?_ ?_
    · rintro w' ⟨q, rfl⟩
      exact run_load_row 24 (.tmp 12) (by rfl) b12 (by rfl) 24 (nvA e) (0, 0) _ ((RP.out.on q.2).row 9) Try.underlying24 rfl (infoV e)
    simp only [Act.put, List.setIfInBounds_toArray, List.set_cons_zero, List.set_cons_succ]
    go_big_quiet_on
    go_big_quiet_want
    refine quiet_run (v := .agg (nvA s2)) ?_ ?_
    · rintro w' ⟨q, rfl⟩
      exact run_load_row 24 (.tmp 10) (by rfl) b10 (by rfl) 24 (nvA s2) (0, 0) _ ((RP.out.on q.2).row 7) Try.underlying24 rfl (infoV s2)
    simp only [Act.put, List.setIfInBounds_toArray, List.set_cons_zero, List.set_cons_succ]
    go_big_quiet_on
    go_big_quiet_want
    refine quiet_run (v := .agg (nvA e)) ?_ ?_
    · rintro w' ⟨q, rfl⟩
      exact run_load_row 24 (.tmp 12) (by rfl) b12 (by rfl) 24 (nvA e) (0, 0) _ ((RP.out.on q.2).row 9) Try.underlying24 rfl (infoV e)
    simp only [Act.put, List.setIfInBounds_toArray, List.set_cons_zero, List.set_cons_succ]
    go_big_quiet_on
    go_big_quiet_step (exact calls_below (Ck.out _))
    go_big_quiet_step (exact calls_below (Csk.out _))
    go_big_quiet_step (exact calls_below (CZ.out _))
    go_big_quiet_want
    refine quiet_run (v := .agg (pvA X Z)) (fun w' _ => run_pair (.tmp 60) (.tmp 66) (by rfl) (by rfl) (by rfl)) ?_
    simp only [Act.put, List.setIfInBounds_toArray, List.set_cons_zero, List.set_cons_succ]
    go_big_quiet_on
    exact wpQuiet_nil rfl
  intro b17 w7 hg hb hr
  have RA := Lib.hid (rw_made R6.out hb hg hr)
  have RB := Lib.hid (RA.out.store 14 (pvA X Z))
  have RC := Lib.hid (RA.out.row 14)
  have R7 := Lib.hid (show Rw w [(g3, nvA u, 24), (g4, pvA px pz, 69), (g5, pvA qx qz, 69), (g6, #[.int .u64 0, .int .u64 0, .int .u64 0, .int .u64 0, .int .u64 0, .int .u64 0, .int .u64 0, .int .u64 0, .int .u64 0, .int .u64 0], 69), (g7, #[.int .u64 0, .int .u64 0, .int .u64 0, .int .u64 0, .int .u64 0, .int .u64 0, .int .u64 0, .int .u64 0, .int .u64 0, .int .u64 0], 69), (b8, nvA sum, 24), (b9, nvA dif, 24), (b10, nvA s2, 24), (b11, nvA d2, 24), (b12, nvA e, 24), (b13, nvA da, 24), (b14, nvA cb, 24), (b15, nvA pl, 24), (b16, nvA mi, 24), (b17, pvA X Z, 69)] _ from RB.out)
  clear hb hg hr R6 RA RB
  simp only [List.drop_succ_cons, List.drop_zero, Act.put, List.setIfInBounds_toArray, List.set_cons_zero, List.set_cons_succ]
  go_upto_region 8 with (with_reducible refine wpList_store_row rfl 69 (.tmp 17) (.tmp 67) rfl b17 (pvA X Z) rfl rfl 69 #[.int .u64 0, .int .u64 0, .int .u64 0, .int .u64 0, .int .u64 0, .int .u64 0, .int .u64 0, .int .u64 0, .int .u64 0, .int .u64 0] RC.out (infoP X Z) rfl (one_pvA X Z) ?_)
  simp only [Act.put]
  clear RC
  generalize w7.setRow b17 (pvA X Z) = W7 at R7 ⊢
  refine wp_region_makes1 9 18 (.cells #[.int .u64 0, .int .u64 0, .int .u64 0, .int .u64 0, .int .u64 0, .int .u64 0, .int .u64 0, .int .u64 0, .int .u64 0, .int .u64 0] 69 (0, 0)) (by kernel_rfl) (by kernel_rfl) (by rfl) ⟨_, rfl, rfl, fun _ => rfl, fun _ _ => by go_simp⟩ ?_
  apply Exists.intro
  refine ⟨?_, ?_⟩
  · intro p hp
    have RP := Lib.hid (R7.out.on hp)
    simp only [List.take_succ_cons, List.take_zero]
    go_big_quiet_want
    refine quiet_run (v := .agg (nvA pl)) ?_ ?_
    · rintro w' ⟨q, rfl⟩
      exact run_load_row 24 (.tmp 15) (by rfl) b15 (by rfl) 24 (nvA pl) (0, 0) _ ((RP.out.on q.2).row 12) Try.underlying24 rfl (infoV pl)
    simp only [Act.put, List.setIfInBounds_toArray, List.set_cons_zero, List.set_cons_succ]
    go_big_quiet_on
    go_big_quiet_want
    refine quiet_run (v := .agg (nvA pl)) ?_ ?_
    · rintro w' ⟨q, rfl⟩
      exact run_load_row 24 (.tmp 15) (by rfl) b15 (by rfl) 24 (nvA pl) (0, 0) _ ((RP.out.on q.2).row 12) Try.underlying24 rfl (infoV pl)
    simp only [Act.put, List.setIfInBounds_toArray, List.set_cons_zero, List.set_cons_succ]
    go_big_quiet_on
    go_big_quiet_step (exact calls_below (CPp.out _))
    go_big_quiet_want
    refine quiet_run (v := .agg (nvA u)) ?_ ?_
    · rintro w' ⟨q, rfl⟩
      exact run_load_row 24 (.tmp 3) (by rfl) g3 (by rfl) 24 (nvA u) (0, 0) _ ((RP.out.on q.2).row 0) Try.underlying24 rfl (infoV u)
    simp only [Act.put, List.setIfInBounds_toArray, List.set_cons_zero, List.set_cons_succ]
    go_big_quiet_on
    go_big_quiet_want
    refine quiet_run (v := .agg (nvA mi)) ?_ ?_
    · rintro w' ⟨q, rfl⟩
      exact run_load_row 24 (.tmp 16) (by rfl) b16 (by rfl) 24 (nvA mi) (0, 0) _ ((RP.out.on q.2).row 13) Try.underlying24 rfl (infoV mi)
    simp only [Act.put, List.setIfInBounds_toArray, List.set_cons_zero, List.set_cons_succ]
    go_big_quiet_on
    go_big_quiet_want
    refine quiet_run (v := .agg (nvA mi)) ?_ ?_
    · rintro w' ⟨q, rfl⟩
      exact run_load_row 24 (.tmp 16) (by rfl) b16 (by rfl) 24 (nvA mi) (0, 0) _ ((RP.out.on q.2).row 13) Try.underlying24 rfl (infoV mi)
    simp only [Act.put, List.setIfInBounds_toArray, List.set_cons_zero, List.set_cons_succ]
    go_big_quiet_on
    go_big_quiet_step (exact calls_below (Cm2.out _))
    go_big_quiet_step (exact calls_below (CRr.out _))
    go_big_quiet_want
    refine quiet_run (v := .agg (pvA Pp Rr)) (fun w' _ => run_pair (.tmp 70) (.tmp 75) (by rfl) (by rfl) (by rfl)) ?_
    simp only [Act.put, List.setIfInBounds_toArray, List.set_cons_zero, List.set_cons_succ]
    go_big_quiet_on
    exact wpQuiet_nil rfl
  intro b18 w8 hg hb hr
  have RA := Lib.hid (rw_made R7.out hb hg hr)
  have RB := Lib.hid (RA.out.store 15 (pvA Pp Rr))
  have RC := Lib.hid (RA.out.row 15)
  have R8 := Lib.hid (show Rw w [(g3, nvA u, 24), (g4, pvA px pz, 69), (g5, pvA qx qz, 69), (g6, #[.int .u64 0, .int .u64 0, .int .u64 0, .int .u64 0, .int .u64 0, .int .u64 0, .int .u64 0, .int .u64 0, .int .u64 0, .int .u64 0], 69), (g7, #[.int .u64 0, .int .u64 0, .int .u64 0, .int .u64 0, .int .u64 0, .int .u64 0, .int .u64 0, .int .u64 0, .int .u64 0, .int .u64 0], 69), (b8, nvA sum, 24), (b9, nvA dif, 24), (b10, nvA s2, 24), (b11, nvA d2, 24), (b12, nvA e, 24), (b13, nvA da, 24), (b14, nvA cb, 24), (b15, nvA pl, 24), (b16, nvA mi, 24), (b17, pvA X Z, 69), (b18, pvA Pp Rr, 69)] _ from RB.out)
  clear hb hg hr R7 RA RB
  simp only [List.drop_succ_cons, List.drop_zero, Act.put, List.setIfInBounds_toArray, List.set_cons_zero, List.set_cons_succ]
  go_upto_region 9 with (with_reducible refine wpList_store_row rfl 69 (.tmp 18) (.tmp 76) rfl b18 (pvA Pp Rr) rfl rfl 69 #[.int .u64 0, .int .u64 0, .int .u64 0, .int .u64 0, .int .u64 0, .int .u64 0, .int .u64 0, .int .u64 0, .int .u64 0, .int .u64 0] RC.out (infoP Pp Rr) rfl (one_pvA Pp Rr) ?_)
  simp only [Act.put]
  clear RC
  generalize w8.setRow b18 (pvA Pp Rr) = W8 at R8 ⊢
  have ND := Lib.hid R8.out.nd
  have N1 := nodup_ne ND.out (i := 3) (j := 14) rfl rfl (by decide)
  have N2 := nodup_ne ND.out (i := 4) (j := 14) rfl rfl (by decide)
  have N3 := nodup_ne ND.out (i := 3) (j := 15) rfl rfl (by decide)
  have N4 := nodup_ne ND.out (i := 4) (j := 15) rfl rfl (by decide)
  have N5' := nodup_ne ND.out (i := 3) (j := 4) rfl rfl (by decide)
  have RC := Lib.hid ((R8.out.drew.store 3 (pvA X Z)).store 4 (pvA Pp Rr))
  refine region_two (ty := 69) (d0 := 77) (d1 := 78) (x0 := 17) (x1 := 18) (y0 := 6) (y1 := 7) (b0 := b17) (b1 := b18) (g0 := g6) (g1 := g7) (A := pvA X Z) (B := pvA Pp Rr) (C := #[.int .u64 0, .int .u64 0, .int .u64 0, .int .u64 0, .int .u64 0, .int .u64 0, .int .u64 0, .int .u64 0, .int .u64 0, .int .u64 0]) (D := #[.int .u64 0, .int .u64 0, .int .u64 0, .int .u64 0, .int .u64 0, .int .u64 0, .int .u64 0, .int .u64 0, .int .u64 0, .int .u64 0]) (by kernel_rfl) rfl
    (by rfl) (by rfl) (by rfl) (by rfl) (by rfl) (by rfl) (by rfl) (by rfl) (by rfl) (by rfl) (by rfl) (by rfl) (by rfl) (by rfl) (by rfl) (by rfl)
    (by kernel_rfl) (by kernel_rfl) (by kernel_rfl) (by kernel_rfl) (by kernel_rfl) (by kernel_rfl) (by kernel_rfl) (by kernel_rfl) (by decide) (by simp) (by simp) (by rfl) (by rfl) (by rfl) (by rfl)
    (R8.out.row 14) (R8.out.row 15) (R8.out.row 3) (R8.out.row 4) N1 N2 N3 N4 N5' Try.underlying69 rfl (infoP X Z) (infoP Pp Rr) rfl rfl (one_pvA X Z) (one_pvA Pp Rr) (fun _ _ _ _ _ h => h) ?_
  simp only [Act.put, List.setIfInBounds_toArray, List.set_cons_zero, List.set_cons_succ]
  clear N1 N2 N3 N4 N5'
  generalize (W8.drew.setRow g6 (pvA X Z)).setRow g7 (pvA Pp Rr) = wz at RC ⊢
  go_wp2_with fail
  exact bodyPost_ret (results_two_rows rfl _ _ g6 g7 69 69 (pvA X Z) (pvA Pp Rr) (0, 0) (0, 0) _ _ rfl rfl (RC.out.row 3) (RC.out.row 4) Try.underlying69 rfl (infoP X Z) Try.underlying69 rfl (infoP Pp Rr)) rfl ⟨rfl, RC.out.bel⟩
end Go.Proofs.Ythlmphloalbhnaa

/-
  ladder.swap: the walk.
-/
namespace Go.Proofs.Ythlmphloalbhnaa
open Go.RowKit MS

section
variable {ops : Array Oper} {rest : List Oper} {o : Oper} {a : Act} {w : World} {Q : Exit → Act → World → Prop}
theorem wpList_load_px (hgd : o.guard = none) (y : Operand) (ho : o.op = .load 24 y) (g : Nat) (hx : a.eval y = .pointer (some ⟨g, 0, none⟩)) (x z : N5) (hb : w.heap[g]? = some (.cells (pvA x z) 69 (0, 0)))
    (h : wpList Try.prog ops Q rest (a.put o.dst (.agg (nvA x))) w) : wpList Try.prog ops Q (o :: rest) a w :=
  wpList_plain hgd fun _ hK => by
    unfold Oper.wp
    rw [run_x y ho hx hb]
    exact hK _ _ h
theorem wpList_load_pz (hgd : o.guard = none) (y : Operand) (ho : o.op = .load 24 y) (g : Nat) (hx : a.eval y = .pointer (some ⟨g, 5, none⟩)) (x z : N5) (hb : w.heap[g]? = some (.cells (pvA x z) 69 (0, 0)))
    (h : wpList Try.prog ops Q rest (a.put o.dst (.agg (nvA z))) w) : wpList Try.prog ops Q (o :: rest) a w :=
  wpList_plain hgd fun _ hK => by
    unfold Oper.wp
    rw [run_z y ho hx hb]
    exact hK _ _ h
theorem pair_there {w : World} {g : Nat} {x z : N5} (hb : w.heap[g]? = some (.cells (pvA x z) 69 (0, 0))) (k : Nat) (hk : k ≤ 5) : w.there g k 5 := fun j hj => by
  refine ⟨?_, frozen_of_row w g (k + j) _ _ hb⟩
  rw [cell_of_row w g (k + j) _ _ _ hb]
  have : k + j < (pvA x z).size := by show k + j < 10; omega
  simp [this]
theorem wpList_store_part (hgd : o.guard = none) (y v : Operand) (ho : o.op = .store 24 y v) (g k : Nat) (hk : k ≤ 5) (hx : a.eval y = .pointer (some ⟨g, k, none⟩)) (n : N5) (hv : a.eval v = .agg (nvA n)) (x z : N5) (hb : w.heap[g]? = some (.cells (pvA x z) 69 (0, 0)))
    (h : wpList Try.prog ops Q rest (a.put o.dst undef) (w.setCells g k (nvA n).toList)) : wpList Try.prog ops Q (o :: rest) a w :=
  wpList_store_mid hgd 24 y v ho g k (nvA n) hx hv (pair_there hb k hk) (infoV n) (one_nvA n) h
end
theorem rw_part_x {w0 w : World} {l : List Blk} (h : Rw w0 l w) (i : Nat) (n : N5) {g : Nat} {x z : N5} {T : TypeId} (hi : l[i]? = some (g, pvA x z, T)) : Rw w0 (l.set i (g, pvA n z, T)) (w.setCells g 0 (nvA n).toList) := by
  have hl : i < l.length := (List.getElem?_eq_some_iff.1 hi).1
  have s : ∀ (b : Blk), (l.set i b)[i]? = some b := fun b => by simp [hl]
  have h1 := h.put i 0 (.int .u64 (n.a : Int)) hi
  have h2 := h1.put i 1 (.int .u64 (n.b : Int)) (s _)
  rw [List.set_set] at h2
  have h3 := h2.put i 2 (.int .u64 (n.c : Int)) (s _)
  rw [List.set_set] at h3
  have h4 := h3.put i 3 (.int .u64 (n.d : Int)) (s _)
  rw [List.set_set] at h4
  have h5 := h4.put i 4 (.int .u64 (n.e : Int)) (s _)
  rw [List.set_set] at h5
  exact h5
theorem rw_part_z {w0 w : World} {l : List Blk} (h : Rw w0 l w) (i : Nat) (n : N5) {g : Nat} {x z : N5} {T : TypeId} (hi : l[i]? = some (g, pvA x z, T)) : Rw w0 (l.set i (g, pvA x n, T)) (w.setCells g 5 (nvA n).toList) := by
  have hl : i < l.length := (List.getElem?_eq_some_iff.1 hi).1
  have s : ∀ (b : Blk), (l.set i b)[i]? = some b := fun b => by simp [hl]
  have h1 := h.put i 5 (.int .u64 (n.a : Int)) hi
  have h2 := h1.put i 6 (.int .u64 (n.b : Int)) (s _)
  rw [List.set_set] at h2
  have h3 := h2.put i 7 (.int .u64 (n.c : Int)) (s _)
  rw [List.set_set] at h3
  have h4 := h3.put i 8 (.int .u64 (n.d : Int)) (s _)
  rw [List.set_set] at h4
  have h5 := h4.put i 9 (.int .u64 (n.e : Int)) (s _)
  rw [List.set_set] at h5
  exact h5

set_option maxRecDepth 1000000 in
set_option maxHeartbeats 8000000 in
theorem pswap_any (ax az bx bz : N5) (yes : Bool) (hax : ax.ok) (haz : az.ok) (hbx : bx.ok) (hbz : bz.ok) (w : World) :
    Calls Try.prog 49 #[.agg (pvA ax az), .agg (pvA bx bz), .bool yes] w fun e w' => e = .returned (.tuple #[.agg (pvA (swA ax bx yes) (swA az bz yes)), .agg (pvA (swA bx ax yes) (swA bz az yes))]) ∧ Below w.heap.size w w' := by
  have CX := Lib.hid (fun w => swap_any ax bx yes hax hbx w)
  have CZ := Lib.hid (fun w => swap_any az bz yes haz hbz w)
  generalize swA ax bx yes = cx at *
  generalize swA bx ax yes = dx at *
  generalize swA az bz yes = cz at *
  generalize swA bz az yes = dz at *
  have R0 := Lib.hid (show Rw w [(w.heap.size, pvA ax az, 69), (w.heap.size + 1, pvA bx bz, 69), (w.heap.size + 1 + 1, #[.int .u64 0, .int .u64 0, .int .u64 0, .int .u64 0, .int .u64 0, .int .u64 0, .int .u64 0, .int .u64 0, .int .u64 0, .int .u64 0], 69), (w.heap.size + 1 + 1 + 1, #[.int .u64 0, .int .u64 0, .int .u64 0, .int .u64 0, .int .u64 0, .int .u64 0, .int .u64 0, .int .u64 0, .int .u64 0, .int .u64 0], 69)] ((((w.alloc (.cells (pvA ax az) 69 (0, 0))).alloc (.cells (pvA bx bz) 69 (0, 0))).alloc (.cells #[.int .u64 0, .int .u64 0, .int .u64 0, .int .u64 0, .int .u64 0, .int .u64 0, .int .u64 0, .int .u64 0, .int .u64 0, .int .u64 0] 69 (0, 0))).alloc (.cells #[.int .u64 0, .int .u64 0, .int .u64 0, .int .u64 0, .int .u64 0, .int .u64 0, .int .u64 0, .int .u64 0, .int .u64 0, .int .u64 0] 69 (0, 0))) from by
    have := ((((Rw.nil w).alloc (pvA ax az) 69).alloc (pvA bx bz) 69).alloc #[.int .u64 0, .int .u64 0, .int .u64 0, .int .u64 0, .int .u64 0, .int .u64 0, .int .u64 0, .int .u64 0, .int .u64 0, .int .u64 0] 69).alloc #[.int .u64 0, .int .u64 0, .int .u64 0, .int .u64 0, .int .u64 0, .int .u64 0, .int .u64 0, .int .u64 0, .int .u64 0, .int .u64 0] 69
    simp only [World.size_alloc] at this
    exact this)
  clear hax haz hbx hbz
  go_enter Try.func49, Try.ntmps49
  go_upto_region 1 with fail
  generalize (((w.alloc (.cells (pvA ax az) 69 (0, 0))).alloc (.cells (pvA bx bz) 69 (0, 0))).alloc (.cells #[.int .u64 0, .int .u64 0, .int .u64 0, .int .u64 0, .int .u64 0, .int .u64 0, .int .u64 0, .int .u64 0, .int .u64 0, .int .u64 0] 69 (0, 0))).alloc (.cells #[.int .u64 0, .int .u64 0, .int .u64 0, .int .u64 0, .int .u64 0, .int .u64 0, .int .u64 0, .int .u64 0, .int .u64 0, .int .u64 0] 69 (0, 0)) = W0 at R0 ⊢
  generalize w.heap.size + 1 + 1 + 1 = g7 at *
  generalize w.heap.size + 1 + 1 = g6 at *
  generalize w.heap.size + 1 = g4 at *
  generalize w.heap.size = g3 at R0 ⊢
  have RA := Lib.hid (R0.out.row 0)
  have RB := Lib.hid (R0.out.row 1)
  go_wp2_with (first
    | (with_reducible refine wpList_load_px rfl (.tmp 9) rfl g3 rfl ax az RA.out ?_)
    | (with_reducible refine wpList_load_px rfl (.tmp 11) rfl g4 rfl bx bz RB.out ?_))
  refine (CX.out _).mono ?_
  rintro e w1 ⟨rfl, hb1⟩
  have R1 := Lib.hid (R0.out.on hb1)
  have R2 := Lib.hid (show Rw w [(g3, pvA cx az, 69), (g4, pvA bx bz, 69), (g6, #[.int .u64 0, .int .u64 0, .int .u64 0, .int .u64 0, .int .u64 0, .int .u64 0, .int .u64 0, .int .u64 0, .int .u64 0, .int .u64 0], 69), (g7, #[.int .u64 0, .int .u64 0, .int .u64 0, .int .u64 0, .int .u64 0, .int .u64 0, .int .u64 0, .int .u64 0, .int .u64 0, .int .u64 0], 69)] (w1.setCells g3 0 (nvA cx).toList) from rw_part_x R1.out 0 cx rfl)
  have R3 := Lib.hid (show Rw w [(g3, pvA cx az, 69), (g4, pvA dx bz, 69), (g6, #[.int .u64 0, .int .u64 0, .int .u64 0, .int .u64 0, .int .u64 0, .int .u64 0, .int .u64 0, .int .u64 0, .int .u64 0, .int .u64 0], 69), (g7, #[.int .u64 0, .int .u64 0, .int .u64 0, .int .u64 0, .int .u64 0, .int .u64 0, .int .u64 0, .int .u64 0, .int .u64 0, .int .u64 0], 69)] ((w1.setCells g3 0 (nvA cx).toList).setCells g4 0 (nvA dx).toList) from rw_part_x R2.out 1 dx rfl)
  have RC := Lib.hid (R1.out.row 0)
  have RD := Lib.hid (R2.out.row 1)
  clear hb1 R0 RA RB R1
  go_upto_region 2 with (first
    | (with_reducible refine wpList_store_part rfl (.tmp 17) (.tmp 15) rfl g3 0 (by decide) rfl cx rfl ax az RC.out ?_)
    | (with_reducible refine wpList_store_part rfl (.tmp 18) (.tmp 16) rfl g4 0 (by decide) rfl dx rfl bx bz RD.out ?_))
  simp only [Act.put]
  clear RC RD R2
  generalize (w1.setCells g3 0 (nvA cx).toList).setCells g4 0 (nvA dx).toList = W1 at R3 ⊢
  have RA := Lib.hid (R3.out.row 0)
  have RB := Lib.hid (R3.out.row 1)
  go_wp2_with (first
    | (with_reducible refine wpList_load_pz rfl (.tmp 20) rfl g3 rfl cx az RA.out ?_)
    | (with_reducible refine wpList_load_pz rfl (.tmp 22) rfl g4 rfl dx bz RB.out ?_))
  refine (CZ.out _).mono ?_
  rintro e w2 ⟨rfl, hb2⟩
  have R4 := Lib.hid (R3.out.on hb2)
  have R5 := Lib.hid (show Rw w [(g3, pvA cx cz, 69), (g4, pvA dx bz, 69), (g6, #[.int .u64 0, .int .u64 0, .int .u64 0, .int .u64 0, .int .u64 0, .int .u64 0, .int .u64 0, .int .u64 0, .int .u64 0, .int .u64 0], 69), (g7, #[.int .u64 0, .int .u64 0, .int .u64 0, .int .u64 0, .int .u64 0, .int .u64 0, .int .u64 0, .int .u64 0, .int .u64 0, .int .u64 0], 69)] (w2.setCells g3 5 (nvA cz).toList) from rw_part_z R4.out 0 cz rfl)
  have R6 := Lib.hid (show Rw w [(g3, pvA cx cz, 69), (g4, pvA dx dz, 69), (g6, #[.int .u64 0, .int .u64 0, .int .u64 0, .int .u64 0, .int .u64 0, .int .u64 0, .int .u64 0, .int .u64 0, .int .u64 0, .int .u64 0], 69), (g7, #[.int .u64 0, .int .u64 0, .int .u64 0, .int .u64 0, .int .u64 0, .int .u64 0, .int .u64 0, .int .u64 0, .int .u64 0, .int .u64 0], 69)] ((w2.setCells g3 5 (nvA cz).toList).setCells g4 5 (nvA dz).toList) from rw_part_z R5.out 1 dz rfl)
  have RC := Lib.hid (R4.out.row 0)
  have RD := Lib.hid (R5.out.row 1)
  clear hb2 R3 RA RB R4
  go_upto_region 3 with (first
    | (with_reducible refine wpList_store_part rfl (.tmp 28) (.tmp 26) rfl g3 5 (by decide) rfl cz rfl cx az RC.out ?_)
    | (with_reducible refine wpList_store_part rfl (.tmp 29) (.tmp 27) rfl g4 5 (by decide) rfl dz rfl dx bz RD.out ?_))
  simp only [Act.put]
  clear RC RD R5
  generalize (w2.setCells g3 5 (nvA cz).toList).setCells g4 5 (nvA dz).toList = W2 at R6 ⊢
  have ND := Lib.hid R6.out.nd
  have N1 := nodup_ne ND.out (i := 2) (j := 0) rfl rfl (by decide)
  have N2 := nodup_ne ND.out (i := 3) (j := 0) rfl rfl (by decide)
  have N3 := nodup_ne ND.out (i := 2) (j := 1) rfl rfl (by decide)
  have N4 := nodup_ne ND.out (i := 3) (j := 1) rfl rfl (by decide)
  have N5' := nodup_ne ND.out (i := 2) (j := 3) rfl rfl (by decide)
  have RC := Lib.hid ((R6.out.drew.store 2 (pvA cx cz)).store 3 (pvA dx dz))
  refine region_two (ty := 69) (d0 := 30) (d1 := 31) (x0 := 3) (x1 := 4) (y0 := 6) (y1 := 7) (b0 := g3) (b1 := g4) (g0 := g6) (g1 := g7) (A := pvA cx cz) (B := pvA dx dz) (C := #[.int .u64 0, .int .u64 0, .int .u64 0, .int .u64 0, .int .u64 0, .int .u64 0, .int .u64 0, .int .u64 0, .int .u64 0, .int .u64 0]) (D := #[.int .u64 0, .int .u64 0, .int .u64 0, .int .u64 0, .int .u64 0, .int .u64 0, .int .u64 0, .int .u64 0, .int .u64 0, .int .u64 0]) (by kernel_rfl) rfl
    (by rfl) (by rfl) (by rfl) (by rfl) (by rfl) (by rfl) (by rfl) (by rfl) (by rfl) (by rfl) (by rfl) (by rfl) (by rfl) (by rfl) (by rfl) (by rfl)
    (by kernel_rfl) (by kernel_rfl) (by kernel_rfl) (by kernel_rfl) (by kernel_rfl) (by kernel_rfl) (by kernel_rfl) (by kernel_rfl) (by decide) (by simp) (by simp) (by rfl) (by rfl) (by rfl) (by rfl)
    (R6.out.row 0) (R6.out.row 1) (R6.out.row 2) (R6.out.row 3) N1 N2 N3 N4 N5' Try.underlying69 rfl (infoP cx cz) (infoP dx dz) rfl rfl (one_pvA cx cz) (one_pvA dx dz) (fun _ _ _ _ _ h => h) ?_
  simp only [Act.put, List.setIfInBounds_toArray, List.set_cons_zero, List.set_cons_succ]
  clear N1 N2 N3 N4 N5'
  generalize (W2.drew.setRow g6 (pvA cx cz)).setRow g7 (pvA dx dz) = wz at RC ⊢
  go_wp2_with fail
  exact bodyPost_ret (results_two_rows rfl _ _ g6 g7 69 69 (pvA cx cz) (pvA dx dz) (0, 0) (0, 0) _ _ rfl rfl (RC.out.row 2) (RC.out.row 3) Try.underlying69 rfl (infoP cx cz) Try.underlying69 rfl (infoP dx dz)) rfl ⟨rfl, RC.out.bel⟩
end Go.Proofs.Ythlmphloalbhnaa

/-
  mailsacklaw03.num, FeSums, FeProducts: the walks.
-/
namespace Go.Proofs.Ythlmphloalbhnaa
open Go.RowKit MS

set_option maxRecDepth 1000000 in
set_option maxHeartbeats 1000000 in
theorem num_any (x : N5) (hx : x.ok) (w : World) :
    Calls Try.prog 15 #[.agg (nvA x)] w fun e w' => Below w.heap.size w w' ∧ ∃ r, e = .returned r ∧ DS w' 0 r 16 (x.v % Q') := by
  obtain ⟨W, hW⟩ : ∃ W : World, W = w.alloc (.cells (nvA x) 24 (0, 0)) := ⟨_, rfl⟩
  have B0 : Below w.heap.size w W := by rw [hW]; exact below_alloc (Below.refl _ _) _
  have h0 : W.heap[w.heap.size]? = some (.cells (nvA x) 24 (0, 0)) := by rw [hW]; exact heap_alloc_new _ _
  have hs : w.heap.size < W.heap.size := by rw [hW, World.size_alloc]; omega
  obtain ⟨L, hLd⟩ : ∃ L : Nat → Nat, L = fun i => [x.a, x.b, x.c, x.d, x.e].getD i 0 := ⟨_, rfl⟩
  have hH : horn L 5 = x.v := by subst hLd; exact horn_five x _ rfl rfl rfl rfl rfl
  have P0 := Lib.hid (rfparts_any L (by
      intro i hi
      subst hLd
      obtain ⟨p0, p1, p2, p3, p4⟩ := hx
      match i, hi with
      | 0, _ => exact p0
      | 1, _ => exact p1
      | 2, _ => exact p2
      | 3, _ => exact p3
      | 4, _ => exact p4) w.heap.size W (by
      intro w' hb i hi
      rw [cell_of_row w' w.heap.size i (nvA x) 24 (0, 0) (by rw [hb.block _ hs]; exact h0)]
      subst hLd
      match i, hi with
      | 0, _ => rfl
      | 1, _ => rfl
      | 2, _ => rfl
      | 3, _ => rfl
      | 4, _ => rfl))
  rw [hH] at P0
  have BH := Lib.hid B0
  unfold nvA at hW ⊢
  clear hx h0 hs hLd hH B0
  go_enter Try.func15, Try.ntmps15
  go_wp2_with fail
  rw [← hW]
  refine P0.out.mono ?_
  rintro e w1 ⟨hb1, r1, rfl, hd1⟩
  have E1 := Lib.hid (show Below w.heap.size w w1 ∧ DS w1 0 r1 16 (x.v % Q') from ⟨BH.out.trans (hb1.mono BH.out.size), hd1⟩)
  clear hb1 hd1 P0
  go_wp2_with fail
  go_ret
  exact ⟨E1.out.1, _, rfl, E1.out.2⟩

theorem sub_val (a : N5) {b : N5} (hb : b.ok) : (sub a b).v % Q' = (a.v % Q' + (Q' - b.v % Q')) % Q' := by
  have h := em_sub_add a hb
  unfold em at h
  rw [add_mod] at h
  have hq : b.v % Q' < Q' := Nat.mod_lt _ (by decide)
  have e1 : (a.v % Q' + (Q' - b.v % Q')) % Q' = (((sub a b).v + b.v) % Q' + (Q' - b.v % Q')) % Q' := by rw [h]
  rw [e1, Nat.add_mod (sub a b).v b.v, Nat.add_mod ((_ : Nat) % Q'), Nat.mod_mod, ← Nat.add_mod]
  rw [Nat.add_assoc, Nat.add_sub_cancel' (Nat.le_of_lt hq), Nat.add_mod_right, Nat.mod_mod]
end Go.Proofs.Ythlmphloalbhnaa

/-
  mailsacklaw03.FeInverts: the walk.
-/
namespace Go.Proofs.Ythlmphloalbhnaa
open Go.RowKit MS

theorem ba_beq {a b : ByteArray} (h : ¬ a = b) : (a.toList == b.toList) = false := by
  rw [ByteArray.toList_eq, ByteArray.toList_eq, beq_eq_false_iff_ne]
  intro e
  exact h (ls_inj e)
theorem inv_times (x : Nat) : x * x ^ E21 % Q' = if x % Q' = 0 then 0 else 1 := by
  have e : x * x ^ E21 = x ^ (Q' - 1) := by
    rw [show Q' - 1 = E21 + 1 by decide +kernel, Nat.pow_succ, Nat.mul_comm]
  split
  · rename_i h
    rw [Nat.mul_mod, h, Nat.zero_mul, Nat.zero_mod]
  · rename_i h
    rw [e]
    exact MSE.fermat MSE.prime25519 fun hd => h (Nat.mod_eq_zero_of_dvd hd)
theorem inv_bytes (a : N5) : feB (invN a) = bs (le32 ((a.v % Q') ^ E21 % Q')) := by
  rw [feB, invN_mod, Nat.pow_mod]
theorem inv_one_bytes (a : N5) : feB (mul a (invN a)) = if a.v % Q' = 0 then feB n0 else feB ⟨1, 0, 0, 0, 0⟩ := by
  have : (mul a (invN a)).v % Q' = if a.v % Q' = 0 then 0 else 1 := by
    rw [mul_mod, Nat.mul_mod, invN_mod, ← Nat.mul_mod, inv_times]
  rw [feB, this]
  split
  · rfl
  · rfl
theorem feB_zero (a : N5) : (feB a = feB n0) ↔ a.v % Q' = 0 := by
  constructor
  · intro h
    unfold feB at h
    have h1 := congrArg ls h
    exact le32_inj (Nat.lt_of_lt_of_le (Nat.mod_lt a.v (show 0 < Q' by decide)) (by decide)) (Nat.lt_of_lt_of_le (Nat.mod_lt n0.v (show 0 < Q' by decide)) (by decide)) h1
  · intro h
    unfold feB
    rw [h]
    rfl

set_option maxRecDepth 1000000 in
set_option maxHeartbeats 2000000 in
theorem feinverts_any (a : N5) (ha : a.ok) (w : World) :
    Calls Try.prog 9 #[.agg (nvA a)] w fun e w' => e = .returned (.bool true) ∧ Below w.heap.size w w' := by
  have A := Lib.hid (fun w => awake03_any w)
  have NA := Lib.hid (fun w => num_any a ha w)
  have hi : (invN a).ok := nar_ok (invN_nar ha)
  have CI := Lib.hid (fun w => feinvert_any a ha w)
  have CM := Lib.hid (fun w => femul_any a (invN a) ha hi w)
  have BM := Lib.hid (fun w => febytes_any (mul a (invN a)) (mul_ok ha hi) w)
  have B1 := Lib.hid (fun w => febytes_any ⟨1, 0, 0, 0, 0⟩ (small_ok 1 (by decide)) w)
  have B0 := Lib.hid (fun w => febytes_any n0 n0_ok w)
  have BA := Lib.hid (fun w => febytes_any a ha w)
  have BI := Lib.hid (fun w => febytes_any (invN a) hi w)
  rw [inv_bytes] at BI
  rw [inv_one_bytes] at BM
  have HU : a.v % Q' < Q' := Nat.mod_lt _ (by decide)
  have HP := Lib.hid (fun va ba w h => rfpower_any (a.v % Q') va ba w h HU)
  have HZ := feB_zero a
  rw [show nvA n0 = #[.int .u64 0, .int .u64 0, .int .u64 0, .int .u64 0, .int .u64 0] from rfl] at B0
  rw [show nvA ⟨1, 0, 0, 0, 0⟩ = #[.int .u64 1, .int .u64 0, .int .u64 0, .int .u64 0, .int .u64 0] from rfl] at B1
  have IA := Lib.hid (infoV a)
  have II := Lib.hid (infoV (invN a))
  have OI := Lib.hid (one_nvA (invN a))
  have LI := Lib.hid (show (#[.int .u64 0, .int .u64 0, .int .u64 0, .int .u64 0, .int .u64 0] : Array Value).size = (nvA (invN a)).size from rfl)
  have R0 := Lib.hid (show Rw w [(w.heap.size, nvA a, 24)] (w.alloc (.cells (nvA a) 24 (0, 0))) from (Rw.nil w).alloc (nvA a) 24)
  generalize nvA (mul a (invN a)) = rm at *
  generalize nvA (invN a) = ri at *
  generalize nvA a = ra at *
  generalize feB a = XA at *
  generalize feB n0 = XZ at *
  generalize feB ⟨1, 0, 0, 0, 0⟩ = X1 at *
  generalize a.v % Q' = u at *
  have HZH := Lib.hid HZ
  clear ha hi HU HZ
  by_cases hz : u = 0
  · rw [if_pos hz] at BM
    have hx : XA = XZ := HZH.out.2 hz
    rw [hx] at BA
    clear HZH hz
    go_enter Try.func9, Try.ntmps9
    go_upto_region 1 with fail
    generalize w.alloc (.cells ra 24 (0, 0)) = W at R0 ⊢
    generalize hga : w.heap.size = ga at *
    clear hga
    have RA := Lib.hid (R0.out.row 0)
    go_wp2_with (with_reducible refine wpList_load_row rfl 24 (.tmp 1) rfl ga rfl 24 ra (0, 0) _ RA.out Try.underlying24 rfl IA.out ?_)
    refine (CI.out _).mono ?_
    rintro e w1 ⟨rfl, hb1⟩
    have R1 := Lib.hid ((R0.out.on hb1).alloc #[.int .u64 0, .int .u64 0, .int .u64 0, .int .u64 0, .int .u64 0] 24)
    have R2 := Lib.hid (R1.out.store 1 ri)
    have RB := Lib.hid (R1.out.row 1)
    clear hb1 RA R0
    go_upto_region 2 with (with_reducible refine wpList_store_row rfl 24 (.tmp 3) (.tmp 7) rfl w1.heap.size ri rfl rfl 24 #[.int .u64 0, .int .u64 0, .int .u64 0, .int .u64 0, .int .u64 0] RB.out II.out LI.out OI.out ?_)
    simp only [Act.put]
    have R3 := Lib.hid (show Rw w [(ga, ra, 24), (w1.heap.size, ri, 24)] _ from R2.out)
    clear R1 R2 RB
    generalize (w1.alloc (.cells #[.int .u64 0, .int .u64 0, .int .u64 0, .int .u64 0, .int .u64 0] 24 (0, 0))).setRow w1.heap.size ri = w2 at R3 ⊢
    generalize w1.heap.size = gi at R3 ⊢
    have RA := Lib.hid (R3.out.row 0)
    have RB := Lib.hid (R3.out.row 1)
    go_wp2_with (first
      | (with_reducible refine wpList_load_row rfl 24 (.tmp 1) rfl ga rfl 24 ra (0, 0) _ RA.out Try.underlying24 rfl IA.out ?_)
      | (with_reducible refine wpList_load_row rfl 24 (.tmp 3) rfl gi rfl 24 ri (0, 0) _ RB.out Try.underlying24 rfl II.out ?_))
    refine (CM.out _).mono ?_
    rintro e w3 ⟨rfl, hb3⟩
    have R4 := Lib.hid (R3.out.on hb3)
    clear hb3 RA RB R3
    go_wp2_with fail
    refine (BM.out _).mono ?_
    rintro e w4 ⟨rfl, hb4⟩
    have R5 := Lib.hid (R4.out.on hb4)
    clear hb4 R4
    go_wp2_with fail
    refine (B1.out _).mono ?_
    rintro e w5 ⟨rfl, hb5⟩
    have R6 := Lib.hid (R5.out.on hb5)
    clear hb5 R5
    have RA := Lib.hid (R6.out.row 0)
    go_wp2_with (with_reducible refine wpList_load_row rfl 24 (.tmp 1) rfl ga rfl 24 ra (0, 0) _ RA.out Try.underlying24 rfl IA.out ?_)
    refine (BA.out _).mono ?_
    rintro e w6 ⟨rfl, hb6⟩
    have R7 := Lib.hid (R6.out.on hb6)
    clear hb6 R6 RA
    go_wp2_with fail
    refine (B0.out _).mono ?_
    rintro e w7 ⟨rfl, hb7⟩
    have R8 := Lib.hid (R7.out.on hb7)
    clear hb7 R7
    go_wp2_with fail
    refine (B0.out _).mono ?_
    rintro e w8 ⟨rfl, hb8⟩
    have R9 := Lib.hid (R8.out.on hb8)
    clear hb8 R8
    go_wp2_with fail
    generalize w8 = W1 at R9 ⊢
    refine wp_region_held (S := fun w' => Below W1.heap.size W1 w') (by kernel_rfl) ?_
    change wpAnyH _ _ _ _ _ _ _ _ (World.drew _)
    have HS : Below W1.heap.size W1 W1.drew := (Below.refl _ _).drew
    refine wpAnyH_take_at (i := 0) (d := 21) (v := .agg ri) rfl (by kernel_rfl) (by kernel_rfl) (by kernel_rfl) (fun _ _ _ h => h) rfl (Or.inl ⟨by rfl, fun w1 h1 => run_load_row 24 (.tmp 3) rfl gi rfl 24 ri (0, 0) _ ((R9.out.on h1).row 1) Try.underlying24 rfl II.out⟩) HS ?_
    simp only [Act.put, List.setIfInBounds_toArray, List.set_cons_zero, List.set_cons_succ]
    refine wpAnyH_take_at (i := 2) (d := 23) (v := .agg ra) rfl (by kernel_rfl) (by kernel_rfl) (by kernel_rfl) (fun _ _ _ h => h) rfl (Or.inl ⟨by rfl, fun w1 h1 => run_load_row 24 (.tmp 1) rfl ga rfl 24 ra (0, 0) _ ((R9.out.on h1).row 0) Try.underlying24 rfl IA.out⟩) HS ?_
    simp only [Act.put, List.setIfInBounds_toArray, List.set_cons_zero, List.set_cons_succ]
    refine wpAnyH_all (rs := [1]) (by kernel_rfl) (by simp) (List.forall_mem_singleton.2 ?_)
    refine wpOp_call (d := 22) (f := 16) (args := #[.agg ri]) rfl (by rfl) rfl (by go_simp) ?_
    refine (BI.out _).mono ?_
    rintro e v1 ⟨rfl, hb1⟩
    have HS1 := HS.trans (hb1.mono HS.size)
    refine ⟨_, rfl, HS1, ?_⟩
    refine wpAnyH_all (rs := [3]) (by kernel_rfl) (by simp) (List.forall_mem_singleton.2 ?_)
    refine wpOp_call (d := 24) (f := 15) (args := #[.agg ra]) rfl (by rfl) rfl (by go_simp) ?_
    refine (NA.out _).mono ?_
    rintro e v2 ⟨hb2, x2, rfl, hd2⟩
    have HS2 := HS1.trans (hb2.mono HS1.size)
    refine ⟨x2, rfl, HS2, ?_⟩
    simp only [Act.put, List.setIfInBounds_toArray, List.set_cons_zero, List.set_cons_succ]
    refine wpAnyH_all (rs := [4]) (by kernel_rfl) (by simp) (List.forall_mem_singleton.2 ?_)
    refine wpOp_call (d := 25) (f := 29) (args := #[x2]) rfl (by rfl) rfl (by go_simp) ?_
    refine (HP.out _ _ _ hd2).mono ?_
    rintro e v3 ⟨hb3, x3, rfl, hd3⟩
    have HS3 := HS2.trans (hb3.mono HS2.size)
    refine ⟨x3, rfl, HS3, ?_⟩
    refine wpAnyH_all (rs := [5]) (by kernel_rfl) (by simp) (List.forall_mem_singleton.2 ?_)
    refine wpOp_call (d := 26) (f := 18) (args := #[x3]) rfl (by rfl) rfl (by go_simp) ?_
    refine (rfbytes_any _ _ _ _ hd3).mono ?_
    rintro e v4 ⟨rfl, hb4⟩
    have HS4 := HS3.trans (hb4.mono HS3.size)
    refine ⟨_, rfl, HS4, ?_⟩
    simp only [Act.put, List.setIfInBounds_toArray, List.set_cons_zero, List.set_cons_succ]
    refine wpAnyH_all (rs := [6]) (by kernel_rfl) (by simp) (List.forall_mem_singleton.2 ?_)
    refine wpOp_val (d := 27) (v := .bool true) rfl (by rfl) rfl (by go_simp) ⟨HS4, ?_⟩
    simp only [Act.put, List.setIfInBounds_toArray, List.set_cons_zero, List.set_cons_succ]
    refine wpAnyH_all (rs := [7]) (by kernel_rfl) (by simp) (List.forall_mem_singleton.2 ?_)
    refine wpOp_val (d := 28) (v := .bool true) rfl (by rfl) rfl (by go_simp) ⟨HS4, ?_⟩
    simp only [Act.put, List.setIfInBounds_toArray, List.set_cons_zero, List.set_cons_succ]
    refine wpAnyH_take_at (i := 8) (d := 29) (v := .string XZ) rfl (by kernel_rfl) (by kernel_rfl) (by kernel_rfl) (fun _ _ _ h => h) rfl (Or.inl ⟨by rfl, by intro w1 _; go_simp⟩) HS4 ?_
    simp only [Act.put, List.setIfInBounds_toArray, List.set_cons_zero, List.set_cons_succ]
    refine wpAnyH_all (rs := [9]) (by kernel_rfl) (by simp) (List.forall_mem_singleton.2 ?_)
    refine wpOp_val (d := 30) (v := .string XZ) rfl (by rfl) rfl (by go_simp) ⟨HS4, ?_⟩
    simp only [Act.put, List.setIfInBounds_toArray, List.set_cons_zero, List.set_cons_succ]
    refine wpAnyH_all (rs := [10]) (by kernel_rfl) (by simp) (List.forall_mem_singleton.2 ?_)
    refine wpOp_val (d := 31) (v := .bool true) rfl (by rfl) rfl (by go_simp) ⟨HS4, ?_⟩
    simp only [Act.put, List.setIfInBounds_toArray, List.set_cons_zero, List.set_cons_succ]
    refine wpAnyH_all (rs := [11]) (by kernel_rfl) (by simp) (List.forall_mem_singleton.2 ?_)
    refine wpOp_val (d := 32) (v := .bool true) rfl (by rfl) rfl (by go_simp) ⟨HS4, ?_⟩
    simp only [Act.put, List.setIfInBounds_toArray, List.set_cons_zero, List.set_cons_succ]
    refine wpAnyH_all (rs := [12]) (by kernel_rfl) (by simp) (List.forall_mem_singleton.2 ?_)
    refine wpOp_val (d := 33) (v := .bool true) rfl (by rfl) rfl (by go_simp) ⟨HS4, ?_⟩
    simp only [Act.put, List.setIfInBounds_toArray, List.set_cons_zero, List.set_cons_succ]
    refine wpAnyH_all (rs := [13]) (by kernel_rfl) (by simp) (List.forall_mem_singleton.2 ?_)
    refine wpOp_call (d := 34) (f := 22) (args := #[]) rfl (by rfl) rfl (by go_simp) ?_
    refine (A.out _).mono ?_
    rintro e v5 ⟨rfl, hb5⟩
    have HS5 := HS4.trans (hb5.mono HS4.size)
    refine ⟨_, rfl, HS5, ?_⟩
    simp only [Act.put, List.setIfInBounds_toArray, List.set_cons_zero, List.set_cons_succ]
    refine wpAnyH_all (rs := [14]) (by kernel_rfl) (by simp) (List.forall_mem_singleton.2 ?_)
    refine wpOp_val (d := 35) (v := .bool true) rfl (by rfl) rfl (by go_simp) ⟨HS5, ?_⟩
    simp only [Act.put, List.setIfInBounds_toArray, List.set_cons_zero, List.set_cons_succ]
    refine wpAnyH_all (rs := [15]) (by kernel_rfl) (by simp) (List.forall_mem_singleton.2 ?_)
    refine wpOp_val (d := 2) (v := .bool true) rfl (by rfl) rfl (by go_simp) ⟨HS5, ?_⟩
    simp only [Act.put, List.setIfInBounds_toArray, List.set_cons_zero, List.set_cons_succ]
    refine wpAnyH_done (by kernel_rfl) ?_ _
    have hz := (R9.out.on HS5).bel
    clear hb1 hb2 hb3 hb4 hb5 hd2 hd3 HS HS1 HS2 HS3 HS4 HS5
    go_wp2_with fail
    go_ret
    exact ⟨rfl, hz⟩
  · rw [if_neg hz] at BM
    have hx : ¬ XA = XZ := fun h => hz (HZH.out.1 h)
    have hxl : (XA.toList == XZ.toList) = false := ba_beq hx
    clear HZH hz
    go_enter Try.func9, Try.ntmps9
    go_upto_region 1 with fail
    generalize w.alloc (.cells ra 24 (0, 0)) = W at R0 ⊢
    generalize hga : w.heap.size = ga at *
    clear hga
    have RA := Lib.hid (R0.out.row 0)
    go_wp2_with (with_reducible refine wpList_load_row rfl 24 (.tmp 1) rfl ga rfl 24 ra (0, 0) _ RA.out Try.underlying24 rfl IA.out ?_)
    refine (CI.out _).mono ?_
    rintro e w1 ⟨rfl, hb1⟩
    have R1 := Lib.hid ((R0.out.on hb1).alloc #[.int .u64 0, .int .u64 0, .int .u64 0, .int .u64 0, .int .u64 0] 24)
    have R2 := Lib.hid (R1.out.store 1 ri)
    have RB := Lib.hid (R1.out.row 1)
    clear hb1 RA R0
    go_upto_region 2 with (with_reducible refine wpList_store_row rfl 24 (.tmp 3) (.tmp 7) rfl w1.heap.size ri rfl rfl 24 #[.int .u64 0, .int .u64 0, .int .u64 0, .int .u64 0, .int .u64 0] RB.out II.out LI.out OI.out ?_)
    simp only [Act.put]
    have R3 := Lib.hid (show Rw w [(ga, ra, 24), (w1.heap.size, ri, 24)] _ from R2.out)
    clear R1 R2 RB
    generalize (w1.alloc (.cells #[.int .u64 0, .int .u64 0, .int .u64 0, .int .u64 0, .int .u64 0] 24 (0, 0))).setRow w1.heap.size ri = w2 at R3 ⊢
    generalize w1.heap.size = gi at R3 ⊢
    have RA := Lib.hid (R3.out.row 0)
    have RB := Lib.hid (R3.out.row 1)
    go_wp2_with (first
      | (with_reducible refine wpList_load_row rfl 24 (.tmp 1) rfl ga rfl 24 ra (0, 0) _ RA.out Try.underlying24 rfl IA.out ?_)
      | (with_reducible refine wpList_load_row rfl 24 (.tmp 3) rfl gi rfl 24 ri (0, 0) _ RB.out Try.underlying24 rfl II.out ?_))
    refine (CM.out _).mono ?_
    rintro e w3 ⟨rfl, hb3⟩
    have R4 := Lib.hid (R3.out.on hb3)
    clear hb3 RA RB R3
    go_wp2_with fail
    refine (BM.out _).mono ?_
    rintro e w4 ⟨rfl, hb4⟩
    have R5 := Lib.hid (R4.out.on hb4)
    clear hb4 R4
    go_wp2_with fail
    refine (B1.out _).mono ?_
    rintro e w5 ⟨rfl, hb5⟩
    have R6 := Lib.hid (R5.out.on hb5)
    clear hb5 R5
    have RA := Lib.hid (R6.out.row 0)
    go_wp2_with (with_reducible refine wpList_load_row rfl 24 (.tmp 1) rfl ga rfl 24 ra (0, 0) _ RA.out Try.underlying24 rfl IA.out ?_)
    refine (BA.out _).mono ?_
    rintro e w6 ⟨rfl, hb6⟩
    have R7 := Lib.hid (R6.out.on hb6)
    clear hb6 R6 RA
    go_wp2_with fail
    refine (B0.out _).mono ?_
    rintro e w7 ⟨rfl, hb7⟩
    have R8 := Lib.hid (R7.out.on hb7)
    clear hb7 R7
    go_wp2_with fail
    have R9 := R8
    clear R8
    generalize w7 = W1 at R9 ⊢
    refine wp_region_held (S := fun w' => Below W1.heap.size W1 w') (by kernel_rfl) ?_
    change wpAnyH _ _ _ _ _ _ _ _ (World.drew _)
    have HS : Below W1.heap.size W1 W1.drew := (Below.refl _ _).drew
    refine wpAnyH_take_at (i := 0) (d := 21) (v := .agg ri) rfl (by kernel_rfl) (by kernel_rfl) (by kernel_rfl) (fun _ _ _ h => h) rfl (Or.inl ⟨by rfl, fun w1 h1 => run_load_row 24 (.tmp 3) rfl gi rfl 24 ri (0, 0) _ ((R9.out.on h1).row 1) Try.underlying24 rfl II.out⟩) HS ?_
    simp only [Act.put, List.setIfInBounds_toArray, List.set_cons_zero, List.set_cons_succ]
    refine wpAnyH_take_at (i := 2) (d := 23) (v := .agg ra) rfl (by kernel_rfl) (by kernel_rfl) (by kernel_rfl) (fun _ _ _ h => h) rfl (Or.inl ⟨by rfl, fun w1 h1 => run_load_row 24 (.tmp 1) rfl ga rfl 24 ra (0, 0) _ ((R9.out.on h1).row 0) Try.underlying24 rfl IA.out⟩) HS ?_
    simp only [Act.put, List.setIfInBounds_toArray, List.set_cons_zero, List.set_cons_succ]
    refine wpAnyH_all (rs := [1]) (by kernel_rfl) (by simp) (List.forall_mem_singleton.2 ?_)
    refine wpOp_call (d := 22) (f := 16) (args := #[.agg ri]) rfl (by rfl) rfl (by go_simp) ?_
    refine (BI.out _).mono ?_
    rintro e v1 ⟨rfl, hb1⟩
    have HS1 := HS.trans (hb1.mono HS.size)
    refine ⟨_, rfl, HS1, ?_⟩
    refine wpAnyH_all (rs := [3]) (by kernel_rfl) (by simp) (List.forall_mem_singleton.2 ?_)
    refine wpOp_call (d := 24) (f := 15) (args := #[.agg ra]) rfl (by rfl) rfl (by go_simp) ?_
    refine (NA.out _).mono ?_
    rintro e v2 ⟨hb2, x2, rfl, hd2⟩
    have HS2 := HS1.trans (hb2.mono HS1.size)
    refine ⟨x2, rfl, HS2, ?_⟩
    simp only [Act.put, List.setIfInBounds_toArray, List.set_cons_zero, List.set_cons_succ]
    refine wpAnyH_all (rs := [4]) (by kernel_rfl) (by simp) (List.forall_mem_singleton.2 ?_)
    refine wpOp_call (d := 25) (f := 29) (args := #[x2]) rfl (by rfl) rfl (by go_simp) ?_
    refine (HP.out _ _ _ hd2).mono ?_
    rintro e v3 ⟨hb3, x3, rfl, hd3⟩
    have HS3 := HS2.trans (hb3.mono HS2.size)
    refine ⟨x3, rfl, HS3, ?_⟩
    refine wpAnyH_all (rs := [5]) (by kernel_rfl) (by simp) (List.forall_mem_singleton.2 ?_)
    refine wpOp_call (d := 26) (f := 18) (args := #[x3]) rfl (by rfl) rfl (by go_simp) ?_
    refine (rfbytes_any _ _ _ _ hd3).mono ?_
    rintro e v4 ⟨rfl, hb4⟩
    have HS4 := HS3.trans (hb4.mono HS3.size)
    refine ⟨_, rfl, HS4, ?_⟩
    simp only [Act.put, List.setIfInBounds_toArray, List.set_cons_zero, List.set_cons_succ]
    refine wpAnyH_all (rs := [6]) (by kernel_rfl) (by simp) (List.forall_mem_singleton.2 ?_)
    refine wpOp_val (d := 27) (v := .bool true) rfl (by rfl) rfl (by go_simp) ⟨HS4, ?_⟩
    simp only [Act.put, List.setIfInBounds_toArray, List.set_cons_zero, List.set_cons_succ]
    refine wpAnyH_all (rs := [7]) (by kernel_rfl) (by simp) (List.forall_mem_singleton.2 ?_)
    refine wpOp_val (d := 28) (v := .bool true) rfl (by rfl) rfl (by go_simp) ⟨HS4, ?_⟩
    simp only [Act.put, List.setIfInBounds_toArray, List.set_cons_zero, List.set_cons_succ]
    refine wpAnyH_take_at (i := 8) (d := 29) (v := .string X1) rfl (by kernel_rfl) (by kernel_rfl) (by kernel_rfl) (fun _ _ _ h => h) rfl (Or.inl ⟨by rfl, by intro w1 _; go_simp⟩) HS4 ?_
    simp only [Act.put, List.setIfInBounds_toArray, List.set_cons_zero, List.set_cons_succ]
    refine wpAnyH_all (rs := [9]) (by kernel_rfl) (by simp) (List.forall_mem_singleton.2 ?_)
    refine wpOp_val (d := 30) (v := .string X1) rfl (by rfl) rfl (by go_simp) ⟨HS4, ?_⟩
    simp only [Act.put, List.setIfInBounds_toArray, List.set_cons_zero, List.set_cons_succ]
    refine wpAnyH_all (rs := [10]) (by kernel_rfl) (by simp) (List.forall_mem_singleton.2 ?_)
    refine wpOp_val (d := 31) (v := .bool true) rfl (by rfl) rfl (by go_simp) ⟨HS4, ?_⟩
    simp only [Act.put, List.setIfInBounds_toArray, List.set_cons_zero, List.set_cons_succ]
    refine wpAnyH_all (rs := [11]) (by kernel_rfl) (by simp) (List.forall_mem_singleton.2 ?_)
    refine wpOp_val (d := 32) (v := .bool true) rfl (by rfl) rfl (by go_simp) ⟨HS4, ?_⟩
    simp only [Act.put, List.setIfInBounds_toArray, List.set_cons_zero, List.set_cons_succ]
    refine wpAnyH_all (rs := [12]) (by kernel_rfl) (by simp) (List.forall_mem_singleton.2 ?_)
    refine wpOp_val (d := 33) (v := .bool true) rfl (by rfl) rfl (by go_simp) ⟨HS4, ?_⟩
    simp only [Act.put, List.setIfInBounds_toArray, List.set_cons_zero, List.set_cons_succ]
    refine wpAnyH_all (rs := [13]) (by kernel_rfl) (by simp) (List.forall_mem_singleton.2 ?_)
    refine wpOp_call (d := 34) (f := 22) (args := #[]) rfl (by rfl) rfl (by go_simp) ?_
    refine (A.out _).mono ?_
    rintro e v5 ⟨rfl, hb5⟩
    have HS5 := HS4.trans (hb5.mono HS4.size)
    refine ⟨_, rfl, HS5, ?_⟩
    simp only [Act.put, List.setIfInBounds_toArray, List.set_cons_zero, List.set_cons_succ]
    refine wpAnyH_all (rs := [14]) (by kernel_rfl) (by simp) (List.forall_mem_singleton.2 ?_)
    refine wpOp_val (d := 35) (v := .bool true) rfl (by rfl) rfl (by go_simp) ⟨HS5, ?_⟩
    simp only [Act.put, List.setIfInBounds_toArray, List.set_cons_zero, List.set_cons_succ]
    refine wpAnyH_all (rs := [15]) (by kernel_rfl) (by simp) (List.forall_mem_singleton.2 ?_)
    refine wpOp_val (d := 2) (v := .bool true) rfl (by rfl) rfl (by go_simp) ⟨HS5, ?_⟩
    simp only [Act.put, List.setIfInBounds_toArray, List.set_cons_zero, List.set_cons_succ]
    refine wpAnyH_done (by kernel_rfl) ?_ _
    have hz := (R9.out.on HS5).bel
    clear hb1 hb2 hb3 hb4 hb5 hd2 hd3 HS HS1 HS2 HS3 HS4 HS5
    go_wp2_with fail
    go_ret
    exact ⟨rfl, hz⟩
end Go.Proofs.Ythlmphloalbhnaa

/-
  ladder.Point (refused), mailsacklaw04.awake, LadderClamps: the walks.
-/
namespace Go.Proofs.Ythlmphloalbhnaa
open Go.RowKit MS

set_option maxRecDepth 1000000 in
set_option maxHeartbeats 1000000 in
theorem point_no1 (s u : ByteArray) (w : World) (hs : s.size ≠ 32) : Calls Try.prog 34 #[.string s, .string u] w fun e w' => e = .returned (.tuple #[.string ⟨#[]⟩, .bool false]) ∧ Below w.heap.size w w' := by
  have C := Lib.hid (fun w => clamp_no s w hs)
  clear hs
  go_enter Try.func34, Try.ntmps34
  go_wp2_with fail
  refine (C.out _).mono ?_
  rintro e w1 ⟨rfl, hb⟩
  have B := Lib.hid hb
  clear hb
  go_wp2_with fail
  go_ret2
  exact ⟨rfl, B.out⟩

def zeroB : ByteArray := ⟨#[0, 0, 0, 0, 0, 0, 0, 0, 0, 0, 0, 0, 0, 0, 0, 0, 0, 0, 0, 0, 0, 0, 0, 0, 0, 0, 0, 0, 0, 0, 0, 0]⟩
theorem clampB_zero : clampB ⟨#[0, 0, 0, 0, 0, 0, 0, 0, 0, 0, 0, 0, 0, 0, 0, 0, 0, 0, 0, 0, 0, 0, 0, 0, 0, 0, 0, 0, 0, 0, 0, 0]⟩ = ⟨#[0, 0, 0, 0, 0, 0, 0, 0, 0, 0, 0, 0, 0, 0, 0, 0, 0, 0, 0, 0, 0, 0, 0, 0, 0, 0, 0, 0, 0, 0, 0, 64]⟩ := by decide +kernel
theorem base_lit : bs (9 :: List.replicate 31 0) = ⟨#[9, 0, 0, 0, 0, 0, 0, 0, 0, 0, 0, 0, 0, 0, 0, 0, 0, 0, 0, 0, 0, 0, 0, 0, 0, 0, 0, 0, 0, 0, 0, 0]⟩ := by decide +kernel

set_option maxRecDepth 1000000 in
set_option maxHeartbeats 1000000 in
theorem awake04_any (w : World) : Calls Try.prog 30 #[] w fun e w' => e = .returned (.bool true) ∧ Below w.heap.size w w' := by
  have C := Lib.hid (fun w => clamp_yes ⟨#[0, 0, 0, 0, 0, 0, 0, 0, 0, 0, 0, 0, 0, 0, 0, 0, 0, 0, 0, 0, 0, 0, 0, 0, 0, 0, 0, 0, 0, 0, 0, 0]⟩ w rfl)
  rw [clampB_zero] at C
  have P := Lib.hid (fun w => point_no1 ⟨#[115, 104, 111, 114, 116]⟩ ⟨#[0, 0, 0, 0, 0, 0, 0, 0, 0, 0, 0, 0, 0, 0, 0, 0, 0, 0, 0, 0, 0, 0, 0, 0, 0, 0, 0, 0, 0, 0, 0, 0]⟩ w (by decide))
  have B := Lib.hid (fun w => base_any w)
  rw [base_lit] at B
  go_enter Try.func30, Try.ntmps30
  go_wp2_with fail
  refine (C.out _).mono ?_
  rintro e w1 ⟨rfl, hb1⟩
  have B1 := Lib.hid hb1
  clear hb1
  go_wp2_with fail
  refine (P.out _).mono ?_
  rintro e w2 ⟨rfl, hb2⟩
  have B2 := Lib.hid (B1.out.trans (hb2.mono B1.out.size))
  clear hb2 B1
  go_wp2_with fail
  refine (B.out _).mono ?_
  rintro e w3 ⟨rfl, hb3⟩
  have B3 := Lib.hid (B2.out.trans (hb3.mono B2.out.size))
  clear hb3 B2
  go_wp2_with fail
  go_ret
  exact ⟨rfl, B3.out⟩

set_option maxRecDepth 1000000 in
set_option maxHeartbeats 1000000 in
theorem ladderclamps_any (s : ByteArray) (w : World) : Calls Try.prog 10 #[.string s] w fun e w' => e = .returned (.bool true) ∧ Below w.heap.size w w' := by
  have A := Lib.hid (fun w => awake04_any w)
  by_cases h1 : s.size > 100
  · have t1 : (s.size : Int) > 100 := by omega
    clear h1
    go_enter Try.func10, Try.ntmps10
    go_wp2_with fail
    refine (A.out _).mono ?_
    rintro e w1 ⟨rfl, hb1⟩
    go_wp2_with fail
    go_ret
    exact ⟨rfl, hb1⟩
  · have t1 : ¬ (s.size : Int) > 100 := by omega
    by_cases h2 : s.size = 32
    · have t2 : (s.size : Int) = 32 := by omega
      have t3 : ((s.size : Int) != 32) = false := by simp; omega
      have C := Lib.hid (fun w => clamp_yes s w h2)
      have R := Lib.hid (fun w => rclamp_any s w h2)
      have B := Lib.hid (fun w => base_any w)
      rw [base_lit] at B
      generalize clampB s = X at C R
      have x1 : (⟨#[0, 0, 0, 0, 0, 0, 0, 0, 0, 0, 0, 0, 0, 0, 0, 0, 0, 0, 0, 0, 0, 0, 0, 0, 0, 0, 0, 0, 0, 0, 0, 0]⟩ : ByteArray).extract 1 32 = ⟨#[0, 0, 0, 0, 0, 0, 0, 0, 0, 0, 0, 0, 0, 0, 0, 0, 0, 0, 0, 0, 0, 0, 0, 0, 0, 0, 0, 0, 0, 0, 0]⟩ := by decide +kernel
      have x2 : (⟨#[9]⟩ : ByteArray) ++ ⟨#[0, 0, 0, 0, 0, 0, 0, 0, 0, 0, 0, 0, 0, 0, 0, 0, 0, 0, 0, 0, 0, 0, 0, 0, 0, 0, 0, 0, 0, 0, 0]⟩ = ⟨#[9, 0, 0, 0, 0, 0, 0, 0, 0, 0, 0, 0, 0, 0, 0, 0, 0, 0, 0, 0, 0, 0, 0, 0, 0, 0, 0, 0, 0, 0, 0, 0]⟩ := by decide +kernel
      clear h1 h2
      go_enter Try.func10, Try.ntmps10
      go_wp2_with fail
      refine (C.out _).mono ?_
      rintro e w1 ⟨rfl, hb1⟩
      have B1 := Lib.hid hb1
      clear hb1
      go_wp2_with fail
      refine wp_region_below (by kernel_rfl) (by kernel_rfl) ?_
      go_big_quiet_step (fail)
      go_big_quiet_step (fail)
      go_big_quiet_step (exact calls_below (R.out _))
      repeat (go_big_quiet_step (first | (exact calls_below (A.out _)) | (exact calls_below (B.out _))))
      refine wpQuiet_nil ?_
      rintro _ ⟨p, rfl⟩
      have B2 := Lib.hid (B1.out.trans (p.2.mono B1.out.size))
      clear B1
      go_wp2_with fail
      go_ret
      exact ⟨rfl, B2.out⟩
    · have t2 : ¬ (s.size : Int) = 32 := by omega
      have t3 : ((s.size : Int) != 32) = true := by simp; omega
      have C := Lib.hid (fun w => clamp_no s w h2)
      clear h1 h2
      go_enter Try.func10, Try.ntmps10
      go_wp2_with fail
      refine (C.out _).mono ?_
      rintro e w1 ⟨rfl, hb1⟩
      have B1 := Lib.hid hb1
      clear hb1
      go_wp2_with fail
      refine (A.out _).mono ?_
      rintro e w2 ⟨rfl, hb2⟩
      have B2 := Lib.hid (B1.out.trans (hb2.mono B1.out.size))
      clear hb2 B1
      go_wp2_with fail
      go_ret
      exact ⟨rfl, B2.out⟩
end Go.Proofs.Ythlmphloalbhnaa

/-
  ladder.Point, Public: the walks.
-/
namespace Go.Proofs.Ythlmphloalbhnaa
open Go.RowKit MS

/-- The element that a number's limbs are. -/
def fN (x : N5) : MSE.F := toF x.v
theorem fN_add (x y : N5) : fN (add x y) = fN x + fN y := by
  apply Fin.ext
  show (add x y).v % Q' = _
  rw [add_mod, Fin.val_add]
  show (x.v + y.v) % Q' = (x.v % Q' + y.v % Q') % Q'
  rw [← Nat.add_mod]
theorem fN_mul (x y : N5) : fN (mul x y) = fN x * fN y := by
  apply Fin.ext
  show (mul x y).v % Q' = _
  rw [mul_mod, Fin.val_mul]
  show (x.v * y.v) % Q' = (x.v % Q' * (y.v % Q')) % Q'
  rw [← Nat.mul_mod]
theorem fN_sub (x : N5) {y : N5} (hy : y.ok) : fN (sub x y) = fN x - fN y := by
  apply Fin.ext
  show (sub x y).v % Q' = _
  rw [sub_val x hy, Fin.sub_def]
  show (x.v % Q' + (Q' - y.v % Q')) % Q' = (Q' - y.v % Q' + x.v % Q') % Q'
  rw [Nat.add_comm]
theorem fN_inv (x : N5) : fN (invN x) = MSE.inv (fN x) := by
  apply Fin.ext
  show (invN x).v % Q' = _
  rw [invN_mod, inv_val]
  show _ = (x.v % Q') ^ E21 % Q'
  rw [← Nat.pow_mod]
theorem feB_fN (x : N5) : feB x = bs (le32 (fN x).val) := rfl
theorem fN_of (s : ByteArray) : fN (ofS s) = uF s := by
  apply Fin.ext
  show (ofS s).v % Q' = lo255 (leN s) % Q'
  rw [ofS, ofN_v]
  rfl
theorem dbl_link (px pz : N5) (hx : px.ok) (hz : pz.ok) : (fN (dblX px pz), fN (dblZ px pz)) = MSE.dblF (fN px, fN pz) := by
  have h1 : (sub px pz).ok := sub_ok hx
  have h2 : (mul (sub px pz) (sub px pz)).ok := mul_ok h1 h1
  unfold dblX dblZ dblE MSE.dblF
  simp only [fN_mul, fN_add, fN_sub _ hz, fN_sub _ h2]
  rfl
theorem add_link (u px pz qx qz : N5) (hpx : px.ok) (hpz : pz.ok) (hqx : qx.ok) (hqz : qz.ok) : (fN (addX px pz qx qz), fN (addZ u px pz qx qz)) = MSE.addF (fN u) (fN px, fN pz) (fN qx, fN qz) := by
  have h2 : (dcb px pz qx qz).ok := mul_ok (add_ok hqx hqz) (sub_ok hpx)
  unfold addX addZ MSE.addF
  simp only [fN_mul, fN_add, fN_sub _ h2]
  unfold dda dcb
  simp only [fN_mul, fN_add, fN_sub _ hqz, fN_sub _ hpz]
theorem addF_comm (u : MSE.F) (p q : MSE.F × MSE.F) : MSE.addF u p q = MSE.addF u q p := by
  unfold MSE.addF
  simp only [Prod.mk.injEq]
  constructor
  · grind
  · grind
theorem dbl_ok (px pz : N5) (hx : px.ok) (hz : pz.ok) : (dblX px pz).ok ∧ (dblZ px pz).ok := by
  have h1 : (sub px pz).ok := sub_ok hx
  have h3 : (add px pz).ok := add_ok hx hz
  have h2 : (mul (sub px pz) (sub px pz)).ok := mul_ok h1 h1
  have h4 : (mul (add px pz) (add px pz)).ok := mul_ok h3 h3
  have h5 : (dblE px pz).ok := sub_ok h4
  exact ⟨mul_ok h4 h2, mul_ok h5 (add_ok h4 (mul_ok h5 (small_ok 121665 (by decide))))⟩
theorem sum_ok (u px pz qx qz : N5) (hu : u.ok) (hpx : px.ok) (hpz : pz.ok) (hqx : qx.ok) (hqz : qz.ok) : (addX px pz qx qz).ok ∧ (addZ u px pz qx qz).ok := by
  have h1 : (dda px pz qx qz).ok := mul_ok (sub_ok hqx) (add_ok hpx hpz)
  have h2 : (dcb px pz qx qz).ok := mul_ok (add_ok hqx hqz) (sub_ok hpx)
  exact ⟨mul_ok (add_ok h1 h2) (add_ok h1 h2), mul_ok hu (mul_ok (sub_ok h1) (sub_ok h1))⟩
theorem and_one : ∀ n : Fin 256, bits .and .u8 ((n.val : Nat) : Int) 1 = ((n.val % 2 : Nat) : Int) := by decide +kernel
theorem bit_at (n r : Nat) (h : n < 256) : (bits .and .u8 ((n : Int) / 2 ^ r) 1 == 1) = decide (n / 2 ^ r % 2 = 1) := by
  have h1 : (n : Int) / 2 ^ r = ((n / 2 ^ r : Nat) : Int) := by simp [Int.natCast_ediv]
  have h2 := and_one ⟨n / 2 ^ r, Nat.lt_of_le_of_lt (Nat.div_le_self _ _) h⟩
  simp only at h2
  rw [h1, h2]
  by_cases e : n / 2 ^ r % 2 = 1
  · rw [e]
    rfl
  · rw [decide_eq_false e, beq_eq_false_iff_ne]
    omega
/-- What the loop keeps of its two points, changed over or not. -/
structure LSt (u : MSE.F) (f : Nat → Bool) (d : Nat) (sw : Bool) (ax az bx bz : N5) : Prop where
  k1 : ax.ok
  k2 : az.ok
  k3 : bx.ok
  k4 : bz.ok
  p : (fN ax, fN az) = if sw then (MSE.ladF u (bts f d)).2 else (MSE.ladF u (bts f d)).1
  q : (fN bx, fN bz) = if sw then (MSE.ladF u (bts f d)).1 else (MSE.ladF u (bts f d)).2
theorem LSt.swap {u : MSE.F} {f : Nat → Bool} {d : Nat} {sw b : Bool} {ax az bx bz : N5} (h : LSt u f d sw ax az bx bz) :
    LSt u f d b (swA ax bx (sw != b)) (swA az bz (sw != b)) (swA bx ax (sw != b)) (swA bz az (sw != b)) := by
  obtain ⟨k1, k2, k3, k4, p, q⟩ := h
  cases sw <;> cases b <;> simp only [bne_self_eq_false, Bool.true_bne, Bool.false_bne, Bool.not_false, swA, Bool.false_eq_true, if_false, if_true] at p q ⊢
  · exact ⟨k1, k2, k3, k4, p, q⟩
  · exact ⟨k3, k4, k1, k2, q, p⟩
  · exact ⟨k3, k4, k1, k2, q, p⟩
  · exact ⟨k1, k2, k3, k4, p, q⟩
theorem LSt.step {st : N5} {f : Nat → Bool} {d : Nat} {b : Bool} {ax az bx bz : N5} (h : LSt (fN st) f d b ax az bx bz) (hst : st.ok) (hb : f (254 - d) = b) :
    LSt (fN st) f (d + 1) b (dblX ax az) (dblZ ax az) (addX ax az bx bz) (addZ st ax az bx bz) := by
  obtain ⟨k1, k2, k3, k4, p, q⟩ := h
  have o1 := dbl_ok ax az k1 k2
  have o2 := sum_ok st ax az bx bz hst k1 k2 k3 k4
  have l1 := dbl_link ax az k1 k2
  have l2 := add_link st ax az bx bz k1 k2 k3 k4
  refine ⟨o1.1, o1.2, o2.1, o2.2, ?_, ?_⟩
  · rw [l1, p, lad_step, hb]
    cases b
    · rfl
    · rfl
  · rw [l2, p, q, lad_step, hb]
    cases b
    · rfl
    · exact addF_comm _ _ _

theorem wpList_one {ops : Array Oper} {rest : List Oper} {o : Oper} {a : Act} {w : World} {Q : Exit → Act → World → Prop} (hgd : o.guard = none) (ho : o.op = .build 24 #[(0, .const (.int .u64 1))])
    (h : wpList Try.prog ops Q rest (a.put o.dst (.agg (nvA ⟨1, 0, 0, 0, 0⟩))) w) : wpList Try.prog ops Q (o :: rest) a w :=
  wpList_plain hgd fun _ hK => by
    have : (execOp a.eval o).run Try.prog w = .ok (.value (.agg (nvA ⟨1, 0, 0, 0, 0⟩))) w := by
      unfold execOp
      simp only [ho]
      unfold nvA
      go_simp
    unfold Oper.wp
    rw [this]
    exact hK _ _ h
theorem wpList_pair1 {ops : Array Oper} {rest : List Oper} {o : Oper} {a : Act} {w : World} {Q : Exit → Act → World → Prop} (hgd : o.guard = none) (p : Operand) (ho : o.op = .build 69 #[(0, p)]) (x : N5) (hp : a.eval p = .agg (nvA x))
    (h : wpList Try.prog ops Q rest (a.put o.dst (.agg (pvA x n0))) w) : wpList Try.prog ops Q (o :: rest) a w :=
  wpList_plain hgd fun _ hK => by
    have : (execOp a.eval o).run Try.prog w = .ok (.value (.agg (pvA x n0))) w := by
      unfold execOp
      simp only [ho, List.map_toArray, List.map_cons, List.map_nil, hp]
      unfold nvA pvA n0
      go_simp
    unfold Oper.wp
    rw [this]
    exact hK _ _ h
theorem wpList_pair {ops : Array Oper} {rest : List Oper} {o : Oper} {a : Act} {w : World} {Q : Exit → Act → World → Prop} (hgd : o.guard = none) (p q : Operand) (ho : o.op = .build 69 #[(0, p), (1, q)]) (x z : N5) (hp : a.eval p = .agg (nvA x)) (hq : a.eval q = .agg (nvA z))
    (h : wpList Try.prog ops Q rest (a.put o.dst (.agg (pvA x z))) w) : wpList Try.prog ops Q (o :: rest) a w :=
  wpList_plain hgd fun _ hK => by
    unfold Oper.wp
    rw [run_pair p q ho hp hq]
    exact hK _ _ h

set_option maxRecDepth 1000000 in
set_option maxHeartbeats 8000000 in
theorem point_yes (s u : ByteArray) (w : World) (hs : s.size = 32) (hu : u.size = 32) :
    Calls Try.prog 34 #[.string s, .string u] w fun e w' => e = .returned (.tuple #[.string (xB s u), .bool true]) ∧ Below w.heap.size w w' := by
  have C := Lib.hid (fun w => clamp_yes s w hs)
  have O := Lib.hid (fun w => feof_yes u w hu)
  have HX := Lib.hid (show xB s u = bs (le32 (MSE.outF (MSE.ladF (uF u) (bts (kbit (clampB s)) 255)).1).val) from rfl)
  have hk : (clampB s).size = 32 := by rw [clampB, size_bs, length_clampL, length_ls]; exact hs
  have hst : (ofS u).ok := ofN_ok (leN u)
  have hx := fN_of u
  obtain ⟨st, est⟩ : ∃ x, x = ofS u := ⟨_, rfl⟩
  rw [← est] at O hst hx
  obtain ⟨k, ek⟩ : ∃ x, x = clampB s := ⟨_, rfl⟩
  rw [← ek] at C HX hk
  clear est ek
  rw [← hx] at HX
  have HST := Lib.hid hst
  have L0 := Lib.hid (show LSt (fN st) (kbit k) 0 false ⟨1, 0, 0, 0, 0⟩ n0 st ⟨1, 0, 0, 0, 0⟩ from ⟨small_ok 1 (by decide), n0_ok, hst, small_ok 1 (by decide), rfl, rfl⟩)
  generalize xB s u = R at *
  have k1 : (k.size : Int) = 32 := by omega
  have HF := Lib.hid (show ∀ i, kbit k i = decide (((ls k).getD (i / 8) 0).toNat / 2 ^ (i % 8) % 2 = 1) from fun _ => rfl)
  generalize kbit k = f at *
  have HK := Lib.hid hk
  clear hs hu hk hst hx
  go_enter Try.func34, Try.ntmps34
  go_wp2_with fail
  refine (C.out _).mono ?_
  rintro e w1 ⟨rfl, hb1⟩
  have B1 := Lib.hid hb1
  clear hb1
  go_wp2_with fail
  refine (O.out _).mono ?_
  rintro e w2 ⟨rfl, hb2⟩
  have B2 := Lib.hid (B1.out.trans (hb2.mono B1.out.size))
  have R0 := Lib.hid (show Rw w [(w2.heap.size, #[.int .u64 0, .int .u64 0, .int .u64 0, .int .u64 0, .int .u64 0], 24)] (w2.alloc (.cells #[.int .u64 0, .int .u64 0, .int .u64 0, .int .u64 0, .int .u64 0] 24 (0, 0))) from ((⟨by simp, by simp, by simp, B2.out⟩ : Rw w [] w2)).alloc #[.int .u64 0, .int .u64 0, .int .u64 0, .int .u64 0, .int .u64 0] 24)
  have R1 := Lib.hid (R0.out.store 0 (nvA st))
  have RA := Lib.hid (R0.out.row 0)
  clear hb2 B1
  go_upto_region 5 with (with_reducible refine wpList_store_row rfl 24 (.tmp 8) (.tmp 24) rfl w2.heap.size (nvA st) rfl rfl 24 #[.int .u64 0, .int .u64 0, .int .u64 0, .int .u64 0, .int .u64 0] RA.out (infoV st) rfl (one_nvA st) ?_)
  try simp only [Act.put]
  have R2 := Lib.hid (show Rw w [(w2.heap.size, nvA st, 24)] _ from R1.out)
  clear R0 R1 RA B2
  generalize (w2.alloc (.cells #[.int .u64 0, .int .u64 0, .int .u64 0, .int .u64 0, .int .u64 0] 24 (0, 0))).setRow w2.heap.size (nvA st) = W2 at R2 ⊢
  generalize w2.heap.size = g8 at R2 ⊢
  have R3 := Lib.hid (R2.out.alloc #[.int .u64 0, .int .u64 0, .int .u64 0, .int .u64 0, .int .u64 0, .int .u64 0, .int .u64 0, .int .u64 0, .int .u64 0, .int .u64 0] 69)
  have R4 := Lib.hid (show Rw w [(g8, nvA st, 24), (W2.heap.size, pvA ⟨1, 0, 0, 0, 0⟩ n0, 69)] ((W2.alloc (.cells #[.int .u64 0, .int .u64 0, .int .u64 0, .int .u64 0, .int .u64 0, .int .u64 0, .int .u64 0, .int .u64 0, .int .u64 0, .int .u64 0] 69 (0, 0))).setRow W2.heap.size (pvA ⟨1, 0, 0, 0, 0⟩ n0)) from R3.out.store 1 (pvA ⟨1, 0, 0, 0, 0⟩ n0))
  have RA := Lib.hid (R3.out.row 1)
  go_upto_region 8 with (first
    | (with_reducible refine wpList_one rfl rfl ?_)
    | (with_reducible refine wpList_pair1 rfl (.tmp 28) rfl ⟨1, 0, 0, 0, 0⟩ rfl ?_)
    | (with_reducible refine wpList_store_row rfl 69 (.tmp 9) (.tmp 29) rfl W2.heap.size (pvA ⟨1, 0, 0, 0, 0⟩ n0) rfl rfl 69 #[.int .u64 0, .int .u64 0, .int .u64 0, .int .u64 0, .int .u64 0, .int .u64 0, .int .u64 0, .int .u64 0, .int .u64 0, .int .u64 0] RA.out (infoP _ _) rfl (one_pvA _ _) ?_))
  try simp only [Act.put]
  clear RA R3 R2
  generalize (W2.alloc (.cells #[.int .u64 0, .int .u64 0, .int .u64 0, .int .u64 0, .int .u64 0, .int .u64 0, .int .u64 0, .int .u64 0, .int .u64 0, .int .u64 0] 69 (0, 0))).setRow W2.heap.size (pvA ⟨1, 0, 0, 0, 0⟩ n0) = W3 at R4 ⊢
  generalize W2.heap.size = g9 at R4 ⊢
  have RX := Lib.hid (R4.out.row 0)
  have R5 := Lib.hid (R4.out.alloc #[.int .u64 0, .int .u64 0, .int .u64 0, .int .u64 0, .int .u64 0, .int .u64 0, .int .u64 0, .int .u64 0, .int .u64 0, .int .u64 0] 69)
  have R6 := Lib.hid (show Rw w [(g8, nvA st, 24), (g9, pvA ⟨1, 0, 0, 0, 0⟩ n0, 69), (W3.heap.size, pvA st ⟨1, 0, 0, 0, 0⟩, 69)] ((W3.alloc (.cells #[.int .u64 0, .int .u64 0, .int .u64 0, .int .u64 0, .int .u64 0, .int .u64 0, .int .u64 0, .int .u64 0, .int .u64 0, .int .u64 0] 69 (0, 0))).setRow W3.heap.size (pvA st ⟨1, 0, 0, 0, 0⟩)) from R5.out.store 2 (pvA st ⟨1, 0, 0, 0, 0⟩))
  have RA := Lib.hid (R5.out.row 2)
  go_upto_region 9 with (first
    | (with_reducible refine wpList_load_row rfl 24 (.tmp 8) rfl g8 rfl 24 (nvA st) (0, 0) _ RX.out Try.underlying24 rfl (infoV st) ?_)
    | (with_reducible refine wpList_one rfl rfl ?_)
    | (with_reducible refine wpList_pair rfl (.tmp 30) (.tmp 31) rfl st ⟨1, 0, 0, 0, 0⟩ rfl rfl ?_)
    | (with_reducible refine wpList_store_row rfl 69 (.tmp 10) (.tmp 32) rfl W3.heap.size (pvA st ⟨1, 0, 0, 0, 0⟩) rfl rfl 69 #[.int .u64 0, .int .u64 0, .int .u64 0, .int .u64 0, .int .u64 0, .int .u64 0, .int .u64 0, .int .u64 0, .int .u64 0, .int .u64 0] RA.out (infoP _ _) rfl (one_pvA _ _) ?_))
  try simp only [Act.put]
  clear RA RX R5 R4
  generalize (W3.alloc (.cells #[.int .u64 0, .int .u64 0, .int .u64 0, .int .u64 0, .int .u64 0, .int .u64 0, .int .u64 0, .int .u64 0, .int .u64 0, .int .u64 0] 69 (0, 0))).setRow W3.heap.size (pvA st ⟨1, 0, 0, 0, 0⟩) = W4 at R6 ⊢
  generalize W3.heap.size = g10 at R6 ⊢
  go_wp2_with fail
  go_loopw [11, 12] (fun b i wr => ∃ (d : Nat) (sw : Bool) (ax az bx bz : N5), d ≤ 255 ∧ i = .int .i64 (254 - (d : Int)) ∧ b = .bool sw ∧ LSt (fN st) f d sw ax az bx bz ∧ Rw w [(g8, nvA st, 24), (g9, pvA ax az, 69), (g10, pvA bx bz, 69)] wr) (fun _ i _ => (intOf i + 1).toNat)
  case atStart => exact ⟨0, false, _, _, _, _, by omega, rfl, rfl, L0.out, R6.out⟩
  case round =>
    obtain ⟨d, sw, ax, az, bx, bz, hd, rfl, rfl, hl, hr⟩ := hrel
    have L1 := Lib.hid hl
    have R7 := Lib.hid hr
    have HD := Lib.hid hd
    clear hl hr hd L0 R6
    by_cases hlt : d < 255
    · obtain ⟨i, hi⟩ : ∃ i : Nat, i = 254 - d := ⟨_, rfl⟩
      have ei : 254 - (d : Int) = (i : Int) := by omega
      have i0 : (i : Int) ≥ 0 := by omega
      have i1 : (i : Int) ≤ 254 := by omega
      have i2 : (0 : Int) ≤ (i : Int) / 8 := by omega
      have i3 : (i : Int) / 8 < k.size := by omega
      have e8 : ((i : Int) / 8).toNat = i / 8 := by omega
      have hik : i / 8 < k.size := by omega
      have gk := ls_get k (i / 8) hik
      rw [ei]
      have HI := Lib.hid (show i = 254 - d ∧ d < 255 from ⟨hi, hlt⟩)
      have HB := Lib.hid (HF.out i)
      generalize (ls k).getD (i / 8) 0 = b0 at *
      have hbit := bit_at b0.toNat (i % 8) (UInt8.toNat_lt b0)
      rw [← HB.out] at hbit
      have HSW := Lib.hid (L1.out.swap (b := f i))
      have HSTEP := Lib.hid (HSW.out.step HST.out (by rw [← HI.out.1]))
      have KS := Lib.hid (fun w => pswap_any ax az bx bz (sw != f i) L1.out.k1 L1.out.k2 L1.out.k3 L1.out.k4 w)
      have KT := Lib.hid (fun w => step_any st _ _ _ _ HST.out HSW.out.k1 HSW.out.k2 HSW.out.k3 HSW.out.k4 w)
      generalize f i = fi at *
      generalize swA ax bx (sw != fi) = cx at *
      generalize swA az bz (sw != fi) = cz at *
      generalize swA bx ax (sw != fi) = dx at *
      generalize swA bz az (sw != fi) = dz at *
      generalize dblX cx cz = ex at *
      generalize dblZ cx cz = ez at *
      generalize addX cx cz dx dz = gx at *
      generalize addZ st cx cz dx dz = gz at *
      have RA := Lib.hid (R7.out.row 1)
      have RB := Lib.hid (R7.out.row 2)
      clear hi hlt ei
      go_wp2_with (first
        | (with_reducible refine wpList_load_row rfl 69 (.tmp 9) rfl g9 rfl 69 (pvA ax az) (0, 0) _ RA.out Try.underlying69 rfl (infoP ax az) ?_)
        | (with_reducible refine wpList_load_row rfl 69 (.tmp 10) rfl g10 rfl 69 (pvA bx bz) (0, 0) _ RB.out Try.underlying69 rfl (infoP bx bz) ?_))
      refine (KS.out _).mono ?_
      rintro e w5 ⟨rfl, hb5⟩
      have R8 := Lib.hid (R7.out.on hb5)
      have R9 := Lib.hid (show Rw w [(g8, nvA st, 24), (g9, pvA cx cz, 69), (g10, pvA bx bz, 69)] (w5.setRow g9 (pvA cx cz)) from R8.out.store 1 (pvA cx cz))
      have Ra := Lib.hid (show Rw w [(g8, nvA st, 24), (g9, pvA cx cz, 69), (g10, pvA dx dz, 69)] ((w5.setRow g9 (pvA cx cz)).setRow g10 (pvA dx dz)) from R9.out.store 2 (pvA dx dz))
      have RC := Lib.hid (R8.out.row 1)
      have RD := Lib.hid (R9.out.row 2)
      clear hb5 RA RB R7 R8
      go_upto_region 15 with (first
        | (with_reducible refine wpList_store_row rfl 69 (.tmp 9) (.tmp 53) rfl g9 (pvA cx cz) rfl rfl 69 (pvA ax az) RC.out (infoP cx cz) rfl (one_pvA cx cz) ?_)
        | (with_reducible refine wpList_store_row rfl 69 (.tmp 10) (.tmp 54) rfl g10 (pvA dx dz) rfl rfl 69 (pvA bx bz) RD.out (infoP dx dz) rfl (one_pvA dx dz) ?_))
      try simp only [Act.put]
      clear RC RD R9
      generalize (w5.setRow g9 (pvA cx cz)).setRow g10 (pvA dx dz) = W5 at Ra ⊢
      have RX := Lib.hid (Ra.out.row 0)
      have RA := Lib.hid (Ra.out.row 1)
      have RB := Lib.hid (Ra.out.row 2)
      go_wp2_with (first
        | (with_reducible refine wpList_load_row rfl 24 (.tmp 8) rfl g8 rfl 24 (nvA st) (0, 0) _ RX.out Try.underlying24 rfl (infoV st) ?_)
        | (with_reducible refine wpList_load_row rfl 69 (.tmp 9) rfl g9 rfl 69 (pvA cx cz) (0, 0) _ RA.out Try.underlying69 rfl (infoP cx cz) ?_)
        | (with_reducible refine wpList_load_row rfl 69 (.tmp 10) rfl g10 rfl 69 (pvA dx dz) (0, 0) _ RB.out Try.underlying69 rfl (infoP dx dz) ?_))
      refine (KT.out _).mono ?_
      rintro e w6 ⟨rfl, hb6⟩
      have Rb := Lib.hid (Ra.out.on hb6)
      have Rc := Lib.hid (show Rw w [(g8, nvA st, 24), (g9, pvA ex ez, 69), (g10, pvA dx dz, 69)] (w6.setRow g9 (pvA ex ez)) from Rb.out.store 1 (pvA ex ez))
      have Rd := Lib.hid (show Rw w [(g8, nvA st, 24), (g9, pvA ex ez, 69), (g10, pvA gx gz, 69)] ((w6.setRow g9 (pvA ex ez)).setRow g10 (pvA gx gz)) from Rc.out.store 2 (pvA gx gz))
      have RC := Lib.hid (Rb.out.row 1)
      have RD := Lib.hid (Rc.out.row 2)
      clear hb6 RA RB RX Ra Rb Rc
      go_wp2_with (first
        | (with_reducible refine wpList_store_row rfl 69 (.tmp 9) (.tmp 61) rfl g9 (pvA ex ez) rfl rfl 69 (pvA cx cz) RC.out (infoP ex ez) rfl (one_pvA ex ez) ?_)
        | (with_reducible refine wpList_store_row rfl 69 (.tmp 10) (.tmp 62) rfl g10 (pvA gx gz) rfl rfl 69 (pvA dx dz) RD.out (infoP gx gz) rfl (one_pvA gx gz) ?_))
      go_roundw
      case rel => exact ⟨d + 1, fi, ex, ez, gx, gz, HI.out.2, by have := HI.out; go_num, rfl, HSTEP.out, Rd.out⟩
      case measure => simp [intOf]
    · have j1 : ¬ 254 - (d : Int) ≥ 0 := by omega
      have hd5 : d = 255 := by have := HD.out; omega
      have HX2 := Lib.hid (show R = bs (le32 (MSE.outF (MSE.ladF (fN st) (bts f d)).1).val) from by rw [hd5]; exact HX.out)
      have KS := Lib.hid (fun w => pswap_any ax az bx bz sw L1.out.k1 L1.out.k2 L1.out.k3 L1.out.k4 w)
      have hp1 := L1.out.p
      have hq1 := L1.out.q
      have HP := Lib.hid (show (fN (swA ax bx sw), fN (swA az bz sw)) = (MSE.ladF (fN st) (bts f d)).1 from by
        cases sw
        · exact hp1
        · exact hq1)
      have o1 : (swA ax bx sw).ok := by cases sw; exact L1.out.k1; exact L1.out.k3
      have o2 : (swA az bz sw).ok := by cases sw; exact L1.out.k2; exact L1.out.k4
      obtain ⟨cx, ecx⟩ : ∃ x, x = swA ax bx sw := ⟨_, rfl⟩
      obtain ⟨cz, ecz⟩ : ∃ x, x = swA az bz sw := ⟨_, rfl⟩
      rw [← ecx] at KS HP o1
      rw [← ecz] at KS HP o2
      have oi : (invN cz).ok := nar_ok (invN_nar o2)
      have KI := Lib.hid (fun w => feinvert_any cz o2 w)
      have KM := Lib.hid (fun w => femul_any cx (invN cz) o1 oi w)
      have KB := Lib.hid (fun w => febytes_any (mul cx (invN cz)) (mul_ok o1 oi) w)
      have HR := Lib.hid (show feB (mul cx (invN cz)) = R from by
        rw [HX2.out, feB_fN, fN_mul, fN_inv, ← HP.out]
        rfl)
      rw [HR.out] at KB
      have RA := Lib.hid (R7.out.row 1)
      have RB := Lib.hid (R7.out.row 2)
      clear hlt hd5 hp1 hq1 o1 o2 oi ecx ecz
      go_wp2_with (first
        | (with_reducible refine wpList_load_row rfl 69 (.tmp 9) rfl g9 rfl 69 (pvA ax az) (0, 0) _ RA.out Try.underlying69 rfl (infoP ax az) ?_)
        | (with_reducible refine wpList_load_row rfl 69 (.tmp 10) rfl g10 rfl 69 (pvA bx bz) (0, 0) _ RB.out Try.underlying69 rfl (infoP bx bz) ?_))
      refine (KS.out _).mono ?_
      rintro e w5 ⟨rfl, hb5⟩
      have R8 := Lib.hid (R7.out.on hb5)
      have R9 := Lib.hid (show Rw w [(g8, nvA st, 24), (g9, pvA cx cz, 69), (g10, pvA bx bz, 69)] (w5.setRow g9 (pvA cx cz)) from R8.out.store 1 (pvA cx cz))
      have RC := Lib.hid (R8.out.row 1)
      clear hb5 RA RB R7 R8
      go_upto_region 18 with (with_reducible refine wpList_store_row rfl 69 (.tmp 9) (.tmp 68) rfl g9 (pvA cx cz) rfl rfl 69 (pvA ax az) RC.out (infoP cx cz) rfl (one_pvA cx cz) ?_)
      try simp only [Act.put]
      clear RC
      generalize w5.setRow g9 (pvA cx cz) = W5 at R9 ⊢
      refine wp_region_below (by kernel_rfl) (by kernel_rfl) ?_
      go_big_quiet_step (fail)
      go_big_quiet_want
      refine quiet_run (v := .agg (nvA cx)) ?_ ?_
      · rintro w' ⟨q, rfl⟩
        exact run_x (.tmp 70) (by rfl) (by rfl) ((R9.out.on q.2).row 1)
      simp only [Act.put, List.setIfInBounds_toArray, List.set_cons_zero, List.set_cons_succ]
      go_big_quiet_on
      go_big_quiet_step (fail)
      go_big_quiet_want
      refine quiet_run (v := .agg (nvA cz)) ?_ ?_
      · rintro w' ⟨q, rfl⟩
        exact run_z (.tmp 72) (by rfl) (by rfl) ((R9.out.on q.2).row 1)
      simp only [Act.put, List.setIfInBounds_toArray, List.set_cons_zero, List.set_cons_succ]
      go_big_quiet_on
      go_big_quiet_step (exact calls_below (KI.out _))
      go_big_quiet_step (exact calls_below (KM.out _))
      go_big_quiet_step (exact calls_below (KB.out _))
      repeat (go_big_quiet_step (fail))
      refine wpQuiet_nil ?_
      rintro _ ⟨p, rfl⟩
      have Rz := Lib.hid (R9.out.on p.2)
      clear R9
      go_wp2_with fail
      go_ret2
      exact ⟨rfl, Rz.out.bel⟩

set_option maxRecDepth 1000000 in
set_option maxHeartbeats 1000000 in
theorem point_no2 (s u : ByteArray) (w : World) (hs : s.size = 32) (hu : u.size ≠ 32) : Calls Try.prog 34 #[.string s, .string u] w fun e w' => e = .returned (.tuple #[.string ⟨#[]⟩, .bool false]) ∧ Below w.heap.size w w' := by
  have C := Lib.hid (fun w => clamp_yes s w hs)
  have O := Lib.hid (fun w => feof_no u w hu)
  clear hs hu
  go_enter Try.func34, Try.ntmps34
  go_wp2_with fail
  refine (C.out _).mono ?_
  rintro e w1 ⟨rfl, hb⟩
  have B1 := Lib.hid hb
  clear hb
  go_wp2_with fail
  refine (O.out _).mono ?_
  rintro e w2 ⟨rfl, hb⟩
  have B2 := Lib.hid (B1.out.trans (hb.mono B1.out.size))
  have R0 := Lib.hid (show Rw w [(w2.heap.size, #[.int .u64 0, .int .u64 0, .int .u64 0, .int .u64 0, .int .u64 0], 24)] (w2.alloc (.cells #[.int .u64 0, .int .u64 0, .int .u64 0, .int .u64 0, .int .u64 0] 24 (0, 0))) from ((⟨by simp, by simp, by simp, B2.out⟩ : Rw w [] w2)).alloc #[.int .u64 0, .int .u64 0, .int .u64 0, .int .u64 0, .int .u64 0] 24)
  have R1 := Lib.hid (R0.out.store 0 (nvA n0))
  have RA := Lib.hid (R0.out.row 0)
  clear hb B1
  go_wp2_with (with_reducible refine wpList_store_row rfl 24 (.tmp 8) (.tmp 24) rfl w2.heap.size (nvA n0) rfl rfl 24 #[.int .u64 0, .int .u64 0, .int .u64 0, .int .u64 0, .int .u64 0] RA.out (infoV n0) rfl (one_nvA n0) ?_)
  go_ret2
  exact ⟨rfl, R1.out.bel⟩

def baseB : ByteArray := bs (9 :: List.replicate 31 0)
theorem size_baseB : baseB.size = 32 := by decide
set_option maxRecDepth 1000000 in
set_option maxHeartbeats 1000000 in
theorem public_yes (s : ByteArray) (w : World) (hs : s.size = 32) : Calls Try.prog 36 #[.string s] w fun e w' => e = .returned (.tuple #[.string (xB s baseB), .bool true]) ∧ Below w.heap.size w w' := by
  have B := Lib.hid (fun w => base_any w)
  rw [show bs (9 :: List.replicate 31 0) = baseB from rfl] at B
  have P := Lib.hid (fun w => point_yes s baseB w hs size_baseB)
  clear hs
  obtain ⟨b, eb⟩ : ∃ x, x = baseB := ⟨_, rfl⟩
  rw [← eb] at B P ⊢
  clear eb
  go_enter Try.func36, Try.ntmps36
  go_wp2_with fail
  refine (B.out _).mono ?_
  rintro e w1 ⟨rfl, hb⟩
  have B1 := Lib.hid hb
  clear hb
  go_wp2_with fail
  refine (P.out _).mono ?_
  rintro e w2 ⟨rfl, hb⟩
  have B2 := Lib.hid (B1.out.trans (hb.mono B1.out.size))
  clear hb B1
  go_wp2_with fail
  go_ret2
  exact ⟨rfl, B2.out⟩

set_option maxRecDepth 1000000 in
set_option maxHeartbeats 1000000 in
theorem public_no (s : ByteArray) (w : World) (hs : s.size ≠ 32) : Calls Try.prog 36 #[.string s] w fun e w' => e = .returned (.tuple #[.string ⟨#[]⟩, .bool false]) ∧ Below w.heap.size w w' := by
  have B := Lib.hid (fun w => base_any w)
  rw [show bs (9 :: List.replicate 31 0) = baseB from rfl] at B
  have P := Lib.hid (fun w => point_no1 s baseB w hs)
  clear hs
  obtain ⟨b, eb⟩ : ∃ x, x = baseB := ⟨_, rfl⟩
  rw [← eb] at B P
  clear eb
  go_enter Try.func36, Try.ntmps36
  go_wp2_with fail
  refine (B.out _).mono ?_
  rintro e w1 ⟨rfl, hb⟩
  have B1 := Lib.hid hb
  clear hb
  go_wp2_with fail
  refine (P.out _).mono ?_
  rintro e w2 ⟨rfl, hb⟩
  have B2 := Lib.hid (B1.out.trans (hb.mono B1.out.size))
  clear hb B1
  go_wp2_with fail
  go_ret2
  exact ⟨rfl, B2.out⟩
end Go.Proofs.Ythlmphloalbhnaa

/-
  The laws of X25519: plain, no program in sight.
-/
namespace Go.Proofs.Ythlmphloalbhnaa
open Go.RowKit MS

theorem size_xB (s u : ByteArray) : (xB s u).size = 32 := by rw [xB, size_bs, length_le32]
theorem leP_le32 (v : Nat) : ∀ n, n ≤ 32 → leP (le32 v) n = v % 2 ^ (8 * n) := by
  intro n
  induction n with
  | zero => intro _; simp [leP, Nat.mod_one]
  | succ n ih =>
    intro h
    have hl := length_le32 v
    have e : ((le32 v).getD n 0).toNat = v / 2 ^ (8 * n) % 256 := by
      rw [List.getD_eq_getElem?_getD, List.getElem?_eq_getElem (by omega)]
      simp only [le32, List.getElem_map, List.getElem_range, Option.getD_some]
      rw [UInt8.toNat_ofNat', Nat.mod_mod]
    rw [leP, ih (by omega), e, show 8 * (n + 1) = 8 * n + 8 by omega, Nat.pow_add, Nat.mod_mul, Nat.mul_comm (2 ^ (8 * n))]
theorem leN_le32 (v : Nat) (h : v < 2 ^ 256) : leN (bs (le32 v)) = v := by
  rw [leN, ls_bs, leP_le32 v 32 (Nat.le_refl _)]
  exact Nat.mod_eq_of_lt h
theorem uF_of (x : MSE.F) : uF (bs (le32 x.val)) = x := by
  have h1 : x.val < MSE.Q := x.isLt
  have h2 : MSE.Q < 2 ^ 255 := by decide
  apply Fin.ext
  show lo255 (leN (bs (le32 x.val))) % MSE.Q = x.val
  rw [leN_le32 _ (Nat.lt_trans h1 (Nat.lt_trans h2 (by decide))), lo255, Nat.mod_eq_of_lt (Nat.lt_trans h1 h2), Nat.mod_eq_of_lt h1]
theorem clamp_low (s : ByteArray) (hs : s.size = 32) : ((ls (clampB s)).getD 0 0).toNat % 8 = 0 := by
  have hl : (ls s).length = 32 := by rw [length_ls]; exact hs
  rw [clampB, ls_bs]
  unfold clampL
  generalize ls s = l at hl
  match l, hl with
  | [a0, a1, a2, a3, a4, a5, a6, a7, a8, a9, a10, a11, a12, a13, a14, a15, a16, a17, a18, a19, a20, a21, a22, a23, a24, a25, a26, a27, a28, a29, a30, a31], _ =>
    show (UInt8.ofNat (a0.toNat - a0.toNat % 8)).toNat % 8 = 0
    have := a0.toNat_lt
    have hy : a0.toNat - a0.toNat % 8 = 8 * (a0.toNat / 8) := by omega
    rw [hy, UInt8.toNat_ofNat', Nat.mod_eq_of_lt (show 8 * (a0.toNat / 8) < 2 ^ 8 by omega)]
    omega
theorem low_bits (s : ByteArray) (hs : s.size = 32) : kbit (clampB s) 0 = false ∧ kbit (clampB s) 1 = false := by
  have h := clamp_low s hs
  unfold kbit
  constructor
  · show decide (((ls (clampB s)).getD 0 0).toNat / 1 % 2 = 1) = false
    exact decide_eq_false (by omega)
  · show decide (((ls (clampB s)).getD 0 0).toNat / 2 % 2 = 1) = false
    exact decide_eq_false (by omega)
theorem bts_succ (f : Nat → Bool) (d : Nat) : bts f (d + 1) = bts f d ++ [f (254 - d)] := rfl
def cbits (s : ByteArray) : List Bool := bts (kbit (clampB s)) 255
theorem xlB_eq (s u : ByteArray) : xlB s u = MSE.xlF (uF u) (cbits s) := rfl
theorem xB_eq (s u : ByteArray) : xB s u = bs (le32 (xlB s u).val) := rfl
theorem xl_bits (s : ByteArray) (hs : s.size = 32) : ∃ c, cbits s = c ++ [false, false] := by
  obtain ⟨h0, h1⟩ := low_bits s hs
  refine ⟨bts (kbit (clampB s)) 253, ?_⟩
  have e1 := bts_succ (kbit (clampB s)) 254
  have e2 := bts_succ (kbit (clampB s)) 253
  rw [Nat.sub_self, h0] at e1
  rw [show 254 - 253 = 1 from rfl, h1] at e2
  rw [cbits, e1, e2]
  generalize bts (kbit (clampB s)) 253 = x
  simp
theorem xB_comm (a b u : ByteArray) (ha : a.size = 32) (hb : b.size = 32) : xB b (xB a u) = xB a (xB b u) := by
  obtain ⟨c, hc⟩ := xl_bits a ha
  obtain ⟨d, hd⟩ := xl_bits b hb
  have e1 : uF (xB a u) = xlB a u := uF_of _
  have e2 : uF (xB b u) = xlB b u := uF_of _
  rw [xB_eq b (xB a u), xB_eq a (xB b u), xlB_eq b (xB a u), xlB_eq a (xB b u), e1, e2, xlB_eq a u, xlB_eq b u, hc, hd, show c ++ [false, false] = (c ++ [false]) ++ [false] by simp, show d ++ [false, false] = (d ++ [false]) ++ [false] by simp, MSE.xl_comm]

/-- The ladder of the part 1: its points are 0, 1, -1, infinity, one behind the other. -/
def Q4 (n : Nat) (p : MSE.F × MSE.F) : Prop := ∃ l : MSE.F, l ≠ 0 ∧ p = if n % 4 = 0 then (l, 0) else if n % 4 = 2 then (0, l) else (l, l)
theorem q4_dbl (n : Nat) (p : MSE.F × MSE.F) (h : Q4 n p) : Q4 (2 * n) (MSE.dblF p) := by
  obtain ⟨l, hl, rfl⟩ := h
  have l4 : l * l * (l * l) ≠ 0 := MSE.mul_ne (MSE.mul_ne hl hl) (MSE.mul_ne hl hl)
  have h4 : n % 4 = 0 ∨ n % 4 = 1 ∨ n % 4 = 2 ∨ n % 4 = 3 := by omega
  rcases h4 with h | h | h | h
  · refine ⟨_, l4, ?_⟩
    rw [if_pos h, if_pos (by omega)]
    unfold MSE.dblF
    ext1 <;> grind
  · refine ⟨16 * 121666 * (l * l * (l * l)), MSE.mul_ne (by decide) l4, ?_⟩
    rw [if_neg (by omega), if_neg (by omega), if_neg (by omega), if_pos (by omega)]
    unfold MSE.dblF
    ext1 <;> grind
  · refine ⟨_, l4, ?_⟩
    rw [if_neg (by omega), if_pos h, if_pos (by omega)]
    unfold MSE.dblF
    ext1 <;> grind
  · refine ⟨16 * 121666 * (l * l * (l * l)), MSE.mul_ne (by decide) l4, ?_⟩
    rw [if_neg (by omega), if_neg (by omega), if_neg (by omega), if_pos (by omega)]
    unfold MSE.dblF
    ext1 <;> grind
theorem q4_add (n : Nat) (p q : MSE.F × MSE.F) (hp : Q4 n p) (hq : Q4 (n + 1) q) : Q4 (2 * n + 1) (MSE.addF 1 p q) := by
  obtain ⟨l, hl, rfl⟩ := hp
  obtain ⟨m, hm, rfl⟩ := hq
  have l4 : 4 * (l * l * (m * m)) ≠ 0 := MSE.mul_ne (by decide) (MSE.mul_ne (MSE.mul_ne hl hl) (MSE.mul_ne hm hm))
  have h4 : n % 4 = 0 ∨ n % 4 = 1 ∨ n % 4 = 2 ∨ n % 4 = 3 := by omega
  refine ⟨_, l4, ?_⟩
  rw [if_neg (show ¬ (2 * n + 1) % 4 = 0 by omega), if_neg (show ¬ (2 * n + 1) % 4 = 2 by omega)]
  rcases h4 with h | h | h | h
  · rw [if_pos h, if_neg (by omega), if_neg (by omega)]
    unfold MSE.addF
    ext1 <;> grind
  · rw [if_neg (by omega), if_neg (by omega), if_neg (by omega), if_pos (by omega)]
    unfold MSE.addF
    ext1 <;> grind
  · rw [if_neg (by omega), if_pos h, if_neg (by omega), if_neg (by omega)]
    unfold MSE.addF
    ext1 <;> grind
  · rw [if_neg (by omega), if_neg (by omega), if_pos (by omega)]
    unfold MSE.addF
    ext1 <;> grind
theorem q4_lad : ∀ (bits : List Bool), ∃ n, Q4 n (MSE.ladF 1 bits).1 ∧ Q4 (n + 1) (MSE.ladF 1 bits).2 := by
  have key : ∀ (bits : List Bool) (s : (MSE.F × MSE.F) × (MSE.F × MSE.F)) (n : Nat), Q4 n s.1 → Q4 (n + 1) s.2 → ∃ n, Q4 n (bits.foldl (MSE.stepF 1) s).1 ∧ Q4 (n + 1) (bits.foldl (MSE.stepF 1) s).2 := by
    intro bits
    induction bits with
    | nil => intro s n h1 h2; exact ⟨n, h1, h2⟩
    | cons b bits ih =>
      intro s n h1 h2
      cases b
      · exact ih _ (2 * n) (q4_dbl n _ h1) (q4_add n _ _ h1 h2)
      · exact ih _ (2 * n + 1) (q4_add n _ _ h1 h2) (q4_dbl (n + 1) _ h2)
  intro bits
  exact key bits _ 0 ⟨1, by decide, by rw [if_pos rfl]⟩ ⟨1, by decide, by rw [if_neg (by decide), if_neg (by decide)]⟩
theorem xl_one (c : List Bool) : MSE.xlF 1 (c ++ [false, false]) = 0 := by
  obtain ⟨n, h1, h2⟩ := q4_lad c
  have e : (MSE.ladF 1 (c ++ [false, false])).1 = MSE.dblF (MSE.dblF (MSE.ladF 1 c).1) := by
    unfold MSE.ladF
    rw [List.foldl_append]
    rfl
  obtain ⟨l, hl, h3⟩ := q4_dbl _ _ (q4_dbl n _ h1)
  unfold MSE.xlF
  rw [e, h3, if_pos (by omega)]
  unfold MSE.outF
  simp only
  rw [MSE.inv_zero]
  grind
theorem uF_zero : uF ⟨#[0, 0, 0, 0, 0, 0, 0, 0, 0, 0, 0, 0, 0, 0, 0, 0, 0, 0, 0, 0, 0, 0, 0, 0, 0, 0, 0, 0, 0, 0, 0, 0]⟩ = 0 := by decide +kernel
theorem uF_one : uF ⟨#[1, 0, 0, 0, 0, 0, 0, 0, 0, 0, 0, 0, 0, 0, 0, 0, 0, 0, 0, 0, 0, 0, 0, 0, 0, 0, 0, 0, 0, 0, 0, 0]⟩ = 1 := by decide +kernel
theorem out_zero : bs (le32 0) = ⟨#[0, 0, 0, 0, 0, 0, 0, 0, 0, 0, 0, 0, 0, 0, 0, 0, 0, 0, 0, 0, 0, 0, 0, 0, 0, 0, 0, 0, 0, 0, 0, 0]⟩ := by decide +kernel
theorem xB_zero (s : ByteArray) (hs : s.size = 32) : xB s ⟨#[0, 0, 0, 0, 0, 0, 0, 0, 0, 0, 0, 0, 0, 0, 0, 0, 0, 0, 0, 0, 0, 0, 0, 0, 0, 0, 0, 0, 0, 0, 0, 0]⟩ = ⟨#[0, 0, 0, 0, 0, 0, 0, 0, 0, 0, 0, 0, 0, 0, 0, 0, 0, 0, 0, 0, 0, 0, 0, 0, 0, 0, 0, 0, 0, 0, 0, 0]⟩ := by
  obtain ⟨c, hc⟩ := xl_bits s hs
  rw [xB_eq, xlB_eq, uF_zero, hc, show c ++ [false, false] = (c ++ [false]) ++ [false] by simp, MSE.xl_zero]
  exact out_zero
theorem xB_one (s : ByteArray) (hs : s.size = 32) : xB s ⟨#[1, 0, 0, 0, 0, 0, 0, 0, 0, 0, 0, 0, 0, 0, 0, 0, 0, 0, 0, 0, 0, 0, 0, 0, 0, 0, 0, 0, 0, 0, 0, 0]⟩ = ⟨#[0, 0, 0, 0, 0, 0, 0, 0, 0, 0, 0, 0, 0, 0, 0, 0, 0, 0, 0, 0, 0, 0, 0, 0, 0, 0, 0, 0, 0, 0, 0, 0]⟩ := by
  obtain ⟨c, hc⟩ := xl_bits s hs
  rw [xB_eq, xlB_eq, uF_one, hc, xl_one]
  exact out_zero
end Go.Proofs.Ythlmphloalbhnaa

/-
  mailsacklaw04.LadderPoints, LadderAgrees, LadderSmall: the walks.
-/
namespace Go.Proofs.Ythlmphloalbhnaa
open Go.RowKit MS

set_option maxRecDepth 1000000 in
set_option maxHeartbeats 2000000 in
theorem ladderpoints_any (s u : ByteArray) (w : World) : Calls Try.prog 11 #[.string s, .string u] w fun e w' => e = .returned (.bool true) ∧ Below w.heap.size w w' := by
  have A := Lib.hid (fun w => awake04_any w)
  by_cases h1 : s.size > 100
  · have t1 : decide ((s.size : Int) > 100) = true := by simp; omega
    have t1' : (s.size : Int) > 100 := by omega
    clear h1
    go_enter Try.func11, Try.ntmps11
    go_wp2_with fail
    refine (A.out _).mono ?_
    rintro e wz ⟨rfl, hbz⟩
    go_wp2_with fail
    go_ret
    exact ⟨rfl, hbz⟩
  · have t1 : decide ((s.size : Int) > 100) = false := by simp; omega
    have t1' : ¬ (s.size : Int) > 100 := by omega
    by_cases h2 : u.size > 100
    · have t2 : decide ((u.size : Int) > 100) = true := by simp; omega
      have t2' : (u.size : Int) > 100 := by omega
      clear h1 h2
      go_enter Try.func11, Try.ntmps11
      go_wp2_with fail
      refine (A.out _).mono ?_
      rintro e wz ⟨rfl, hbz⟩
      go_wp2_with fail
      go_ret
      exact ⟨rfl, hbz⟩
    · have t2 : decide ((u.size : Int) > 100) = false := by simp; omega
      have t2' : ¬ (u.size : Int) > 100 := by omega
      by_cases h3 : s.size = 32
      · have t3 : ((s.size : Int) != 32) = false := by simp; omega
        have t3' : (s.size : Int) = 32 := by omega
        by_cases h4 : u.size = 32
        · have t4 : ((u.size : Int) != 32) = false := by simp; omega
          have t4' : (u.size : Int) = 32 := by omega
          have P := Lib.hid (fun w => point_yes s u w h3 h4)
          have R := Lib.hid (fun w => rpoint_any s u w h3 h4)
          obtain ⟨X, hX⟩ : ∃ X, X = xB s u := ⟨_, rfl⟩
          rw [← hX] at P R
          clear h1 h2 h3 h4 hX
          go_enter Try.func11, Try.ntmps11
          go_wp2_with fail
          refine (P.out _).mono ?_
          rintro e w1 ⟨rfl, hb1⟩
          have B1 := Lib.hid hb1
          clear hb1
          go_wp2_with fail
          refine (R.out _).mono ?_
          rintro e w2 ⟨rfl, hb2⟩
          have B2 := Lib.hid (B1.out.trans (hb2.mono B1.out.size))
          clear hb2 B1
          go_wp2_with fail
          refine (A.out _).mono ?_
          rintro e wz ⟨rfl, hbz⟩
          go_wp2_with fail
          go_ret
          exact ⟨rfl, B2.out.trans (hbz.mono B2.out.size)⟩
        · have t4 : ((u.size : Int) != 32) = true := by simp; omega
          have t4' : ¬ (u.size : Int) = 32 := by omega
          have P := Lib.hid (fun w => point_no2 s u w h3 h4)
          clear h1 h2 h3 h4
          go_enter Try.func11, Try.ntmps11
          go_wp2_with fail
          refine (P.out _).mono ?_
          rintro e w1 ⟨rfl, hb1⟩
          have B1 := Lib.hid hb1
          clear hb1
          go_wp2_with fail
          refine (A.out _).mono ?_
          rintro e wz ⟨rfl, hbz⟩
          go_wp2_with fail
          go_ret
          exact ⟨rfl, B1.out.trans (hbz.mono B1.out.size)⟩
      · have t3 : ((s.size : Int) != 32) = true := by simp; omega
        have t3' : ¬ (s.size : Int) = 32 := by omega
        have P := Lib.hid (fun w => point_no1 s u w h3)
        clear h1 h2 h3
        go_enter Try.func11, Try.ntmps11
        go_wp2_with fail
        refine (P.out _).mono ?_
        rintro e w1 ⟨rfl, hb1⟩
        have B1 := Lib.hid hb1
        clear hb1
        go_wp2_with fail
        refine (A.out _).mono ?_
        rintro e wz ⟨rfl, hbz⟩
        go_wp2_with fail
        go_ret
        exact ⟨rfl, B1.out.trans (hbz.mono B1.out.size)⟩

set_option maxRecDepth 1000000 in
set_option maxHeartbeats 2000000 in
theorem ladderagrees_any (a b u : ByteArray) (w : World) : Calls Try.prog 13 #[.string a, .string b, .string u] w fun e w' => e = .returned (.bool true) ∧ Below w.heap.size w w' := by
  have A := Lib.hid (fun w => awake04_any w)
  by_cases h1 : a.size = 32
  · by_cases h2 : b.size = 32
    · by_cases h3 : u.size = 32
      · have t1 : ((a.size : Int) != 32) = false := by simp; omega
        have t1' : (a.size : Int) = 32 := by omega
        have t2 : ((b.size : Int) != 32) = false := by simp; omega
        have t2' : (b.size : Int) = 32 := by omega
        have t3 : ((u.size : Int) != 32) = false := by simp; omega
        have t3' : (u.size : Int) = 32 := by omega
        have P1 := Lib.hid (fun w => public_yes a w h1)
        have P2 := Lib.hid (fun w => public_yes b w h2)
        have P3 := Lib.hid (fun w => point_yes a (xB b baseB) w h1 (size_xB _ _))
        have P4 := Lib.hid (fun w => point_yes b (xB a baseB) w h2 (size_xB _ _))
        have P5 := Lib.hid (fun w => point_yes a u w h1 h3)
        have P6 := Lib.hid (fun w => point_yes b u w h2 h3)
        have P7 := Lib.hid (fun w => point_yes b (xB a u) w h2 (size_xB _ _))
        have P8 := Lib.hid (fun w => point_yes a (xB b u) w h1 (size_xB _ _))
        rw [xB_comm a b baseB h1 h2] at P4
        rw [xB_comm a b u h1 h2] at P7
        have s1 : (xB a (xB b baseB)).size = 32 := size_xB _ _
        obtain ⟨X1, e1⟩ : ∃ X, X = xB a (xB b baseB) := ⟨_, rfl⟩
        obtain ⟨X2, e2⟩ : ∃ X, X = xB a (xB b u) := ⟨_, rfl⟩
        rw [← e1] at P3 P4 s1
        rw [← e2] at P7 P8
        obtain ⟨X3, e3⟩ : ∃ X, X = xB a baseB := ⟨_, rfl⟩
        obtain ⟨X4, e4⟩ : ∃ X, X = xB b baseB := ⟨_, rfl⟩
        obtain ⟨X5, e5⟩ : ∃ X, X = xB a u := ⟨_, rfl⟩
        obtain ⟨X6, e6⟩ : ∃ X, X = xB b u := ⟨_, rfl⟩
        rw [← e3] at P1 P4
        rw [← e4] at P2 P3
        rw [← e5] at P5 P7
        rw [← e6] at P6 P8
        have s2 : (X1.size : Int) = 32 := by omega
        clear h1 h2 h3 e1 e2 e3 e4 e5 e6 s1
        go_enter Try.func13, Try.ntmps13
        have B0 := Lib.hid (Below.refl w.heap.size w)
        go_wp2_with fail
        refine (P1.out _).mono ?_
        rintro e w1 ⟨rfl, hb⟩
        have B1 := Lib.hid (B0.out.trans (hb.mono B0.out.size))
        clear hb B0
        go_wp2_with fail
        refine (P2.out _).mono ?_
        rintro e w2 ⟨rfl, hb⟩
        have B2 := Lib.hid (B1.out.trans (hb.mono B1.out.size))
        clear hb B1
        go_wp2_with fail
        refine (P3.out _).mono ?_
        rintro e w3 ⟨rfl, hb⟩
        have B3 := Lib.hid (B2.out.trans (hb.mono B2.out.size))
        clear hb B2
        go_wp2_with fail
        refine (P4.out _).mono ?_
        rintro e w4 ⟨rfl, hb⟩
        have B4 := Lib.hid (B3.out.trans (hb.mono B3.out.size))
        clear hb B3
        go_wp2_with fail
        refine (P5.out _).mono ?_
        rintro e w5 ⟨rfl, hb⟩
        have B5 := Lib.hid (B4.out.trans (hb.mono B4.out.size))
        clear hb B4
        go_wp2_with fail
        refine (P6.out _).mono ?_
        rintro e w6 ⟨rfl, hb⟩
        have B6 := Lib.hid (B5.out.trans (hb.mono B5.out.size))
        clear hb B5
        go_wp2_with fail
        refine (P7.out _).mono ?_
        rintro e w7 ⟨rfl, hb⟩
        have B7 := Lib.hid (B6.out.trans (hb.mono B6.out.size))
        clear hb B6
        go_wp2_with fail
        refine (P8.out _).mono ?_
        rintro e w8 ⟨rfl, hb⟩
        have B8 := Lib.hid (B7.out.trans (hb.mono B7.out.size))
        clear hb B7
        go_wp2_with fail
        refine (A.out _).mono ?_
        rintro e wz ⟨rfl, hbz⟩
        go_wp2_with fail
        go_ret
        exact ⟨rfl, B8.out.trans (hbz.mono B8.out.size)⟩
      · have t1 : ((a.size : Int) != 32) = false := by simp; omega
        have t1' : (a.size : Int) = 32 := by omega
        have t2 : ((b.size : Int) != 32) = false := by simp; omega
        have t2' : (b.size : Int) = 32 := by omega
        have t3 : ((u.size : Int) != 32) = true := by simp; omega
        have t3' : ¬ (u.size : Int) = 32 := by omega
        clear h1 h2 h3
        go_enter Try.func13, Try.ntmps13
        go_wp2_with fail
        refine (A.out _).mono ?_
        rintro e wz ⟨rfl, hbz⟩
        go_wp2_with fail
        go_ret
        exact ⟨rfl, hbz⟩
    · have t1 : ((a.size : Int) != 32) = false := by simp; omega
      have t1' : (a.size : Int) = 32 := by omega
      have t2 : ((b.size : Int) != 32) = true := by simp; omega
      have t2' : ¬ (b.size : Int) = 32 := by omega
      clear h1 h2
      go_enter Try.func13, Try.ntmps13
      go_wp2_with fail
      refine (A.out _).mono ?_
      rintro e wz ⟨rfl, hbz⟩
      go_wp2_with fail
      go_ret
      exact ⟨rfl, hbz⟩
  · have t1 : ((a.size : Int) != 32) = true := by simp; omega
    have t1' : ¬ (a.size : Int) = 32 := by omega
    clear h1
    go_enter Try.func13, Try.ntmps13
    go_wp2_with fail
    refine (A.out _).mono ?_
    rintro e wz ⟨rfl, hbz⟩
    go_wp2_with fail
    go_ret
    exact ⟨rfl, hbz⟩

set_option maxRecDepth 1000000 in
set_option maxHeartbeats 2000000 in
theorem laddersmall_any (s : ByteArray) (w : World) : Calls Try.prog 14 #[.string s] w fun e w' => e = .returned (.bool true) ∧ Below w.heap.size w w' := by
  have A := Lib.hid (fun w => awake04_any w)
  by_cases h1 : s.size = 32
  · have t1 : ((s.size : Int) != 32) = false := by simp; omega
    have t1' : (s.size : Int) = 32 := by omega
    have P1 := Lib.hid (fun w => point_yes s ⟨#[0, 0, 0, 0, 0, 0, 0, 0, 0, 0, 0, 0, 0, 0, 0, 0, 0, 0, 0, 0, 0, 0, 0, 0, 0, 0, 0, 0, 0, 0, 0, 0]⟩ w h1 rfl)
    rw [xB_zero s h1] at P1
    have P2 := Lib.hid (fun w => point_yes s ⟨#[1, 0, 0, 0, 0, 0, 0, 0, 0, 0, 0, 0, 0, 0, 0, 0, 0, 0, 0, 0, 0, 0, 0, 0, 0, 0, 0, 0, 0, 0, 0, 0]⟩ w h1 rfl)
    rw [xB_one s h1] at P2
    have B := Lib.hid (fun w => base_any w)
    rw [show bs (9 :: List.replicate 31 0) = baseB from rfl] at B
    have P3 := Lib.hid (fun w => point_yes s baseB w h1 size_baseB)
    have P4 := Lib.hid (fun w => public_yes s w h1)
    obtain ⟨X, e⟩ : ∃ X, X = xB s baseB := ⟨_, rfl⟩
    rw [← e] at P3 P4
    obtain ⟨bb, eb⟩ : ∃ X, X = baseB := ⟨_, rfl⟩
    rw [← eb] at P3 B
    have x1 : (⟨#[0, 0, 0, 0, 0, 0, 0, 0, 0, 0, 0, 0, 0, 0, 0, 0, 0, 0, 0, 0, 0, 0, 0, 0, 0, 0, 0, 0, 0, 0, 0, 0]⟩ : ByteArray).extract 1 32 = ⟨#[0, 0, 0, 0, 0, 0, 0, 0, 0, 0, 0, 0, 0, 0, 0, 0, 0, 0, 0, 0, 0, 0, 0, 0, 0, 0, 0, 0, 0, 0, 0]⟩ := by decide +kernel
    have x2 : (⟨#[1]⟩ : ByteArray) ++ ⟨#[0, 0, 0, 0, 0, 0, 0, 0, 0, 0, 0, 0, 0, 0, 0, 0, 0, 0, 0, 0, 0, 0, 0, 0, 0, 0, 0, 0, 0, 0, 0]⟩ = ⟨#[1, 0, 0, 0, 0, 0, 0, 0, 0, 0, 0, 0, 0, 0, 0, 0, 0, 0, 0, 0, 0, 0, 0, 0, 0, 0, 0, 0, 0, 0, 0, 0]⟩ := by decide +kernel
    clear h1 e eb
    go_enter Try.func14, Try.ntmps14
    have B0 := Lib.hid (Below.refl w.heap.size w)
    go_wp2_with fail
    refine (P1.out _).mono ?_
    rintro e w1 ⟨rfl, hb⟩
    have B1 := Lib.hid (B0.out.trans (hb.mono B0.out.size))
    clear hb B0
    go_wp2_with fail
    refine (P2.out _).mono ?_
    rintro e w2 ⟨rfl, hb⟩
    have B2 := Lib.hid (B1.out.trans (hb.mono B1.out.size))
    clear hb B1
    go_wp2_with fail
    refine (B.out _).mono ?_
    rintro e w3 ⟨rfl, hb⟩
    have B3 := Lib.hid (B2.out.trans (hb.mono B2.out.size))
    clear hb B2
    go_wp2_with fail
    refine (P3.out _).mono ?_
    rintro e w4 ⟨rfl, hb⟩
    have B4 := Lib.hid (B3.out.trans (hb.mono B3.out.size))
    clear hb B3
    go_wp2_with fail
    refine (P4.out _).mono ?_
    rintro e w5 ⟨rfl, hb⟩
    have B5 := Lib.hid (B4.out.trans (hb.mono B4.out.size))
    clear hb B4
    go_wp2_with fail
    refine (A.out _).mono ?_
    rintro e wz ⟨rfl, hbz⟩
    go_wp2_with fail
    go_ret
    exact ⟨rfl, B5.out.trans (hbz.mono B5.out.size)⟩
  · have t1 : ((s.size : Int) != 32) = true := by simp; omega
    have t1' : ¬ (s.size : Int) = 32 := by omega
    clear h1
    go_enter Try.func14, Try.ntmps14
    go_wp2_with fail
    refine (A.out _).mono ?_
    rintro e wz ⟨rfl, hbz⟩
    go_wp2_with fail
    go_ret
    exact ⟨rfl, hbz⟩
end Go.Proofs.Ythlmphloalbhnaa

/-
  Opening an argument that is an array of whole numbers by value.
-/
namespace Go.Proofs.Ythlmphloalbhnaa
open Go.ChangeShapes Go.WideShapes Go.ChangeAt Go.RowKit MS

section
variable {H : Type} {enc : TypeId × Value → H} {P : Program} {w : World} {base b0 : Nat} {spare : Nat → Bool} {held : Bool} {r : Reach} {t e : TypeId} {n : Nat} {k : IntKind} {v : Value} {d : DataW H} {ps : List MemPlace}
theorem open_array (ht : P.underlying t = some (.array n e)) (he : P.underlying e = some (.int k)) (hc : P.cellsOf e = 1) (hn : P.cellsOf t = n)
    (hval : Value.okWide P w r b0 t v) (hd : DataW.Trod enc P w base spare held t v d ps) :
    ∃ cs : Array Value, v = .agg cs ∧ cs.size = n ∧ ∀ i, i < n → ∃ m, cs[i]? = some (.int k m) ∧ (Lit.int k m).wf = true := by
  unfold Value.okWide at hval
  simp only [ht] at hval
  obtain ⟨cs, rfl, hs, _⟩ := hval
  obtain ⟨fuel, hf⟩ := hd
  obtain ⟨xs, m, _, _, _, hxl, hx⟩ := DataW.trod_array ht hf
  refine ⟨cs, rfl, by rw [hs, hn], fun i hi => ?_⟩
  have h1 := hx i hi
  rw [List.getElem?_eq_getElem (by omega)] at h1
  obtain ⟨q, h2, _, h3⟩ := DataW.trod_int he h1
  refine ⟨q, ?_, h3⟩
  rw [hc, Nat.mul_one] at h2
  have h4 : ((cs.toList.drop i).take 1)[0]? = some (.int k q) := by
    have : (Value.agg cs).cells = cs := rfl
    rw [this] at h2
    rw [h2]; rfl
  rw [List.getElem?_take_of_lt (by omega), List.getElem?_drop] at h4
  simpa using h4
end

theorem open_w32 {P : Program} {w : World} {base b0 : Nat} {spare : Nat → Bool} {held : Bool} {r : Reach} {t e : TypeId} {n : Nat} {v : Value} {H : Type} {enc : TypeId × Value → H} {d : DataW H} {ps : List MemPlace}
    (ht : P.underlying t = some (.array n e)) (he : P.underlying e = some (.int .u32)) (hc : P.cellsOf e = 1) (hn : P.cellsOf t = n)
    (hval : Value.okWide P w r b0 t v) (hd : DataW.Trod enc P w base spare held t v d ps) : ∃ a : Array W32, a.size = n ∧ v = .agg (a.map fun x => .int .u32 (wv x)) := by
  obtain ⟨cs, rfl, hs, hi⟩ := open_array ht he hc hn hval hd
  refine ⟨cs.map fun v => match v with | .int _ m => BitVec.ofNat 32 m.toNat | _ => 0, by simp [hs], ?_⟩
  congr 1
  apply Array.ext
  · simp
  · intro i h1 h2
    obtain ⟨m, hm, hw⟩ := hi i (by omega)
    have bd := bounds_u32 hw
    have h3 : cs[i] = .int .u32 m := by
      rw [Array.getElem?_eq_getElem h1] at hm; exact Option.some.inj hm
    simp only [Array.getElem_map, h3]
    congr 1
    unfold wv; rw [BitVec.toNat_ofNat]; omega

theorem open_w64 {P : Program} {w : World} {base b0 : Nat} {spare : Nat → Bool} {held : Bool} {r : Reach} {t e : TypeId} {n : Nat} {v : Value} {H : Type} {enc : TypeId × Value → H} {d : DataW H} {ps : List MemPlace}
    (ht : P.underlying t = some (.array n e)) (he : P.underlying e = some (.int .u64)) (hc : P.cellsOf e = 1) (hn : P.cellsOf t = n)
    (hval : Value.okWide P w r b0 t v) (hd : DataW.Trod enc P w base spare held t v d ps) : ∃ a : Array Nat, a.size = n ∧ (∀ i, a.getD i 0 < 18446744073709551616) ∧ v = .agg (a.map fun (x : Nat) => .int .u64 (x : Int)) := by
  obtain ⟨cs, rfl, hs, hi⟩ := open_array ht he hc hn hval hd
  have key : ∀ i (h : i < cs.size), ∃ m : Int, cs[i] = .int .u64 m ∧ 0 ≤ m ∧ m ≤ 18446744073709551615 := fun i h => by
    obtain ⟨m, hm, hw⟩ := hi i (by omega)
    have bd := bounds_u64 hw
    exact ⟨m, by rw [Array.getElem?_eq_getElem h] at hm; exact Option.some.inj hm, bd⟩
  refine ⟨cs.map fun v => match v with | .int _ m => m.toNat | _ => 0, by simp [hs], fun i => ?_, ?_⟩
  · by_cases h : i < cs.size
    · obtain ⟨m, h3, h4, h5⟩ := key i h
      simp only [Array.getD, Array.size_map, h, dif_pos, Array.getInternal_eq_getElem, Array.getElem_map, h3]
      omega
    · simp [Array.getD, h]
  · congr 1
    apply Array.ext
    · simp
    · intro i h1 h2
      obtain ⟨m, h3, h4, h5⟩ := key i h1
      simp only [Array.getElem_map, h3]
      congr 1
      omega
end Go.Proofs.Ythlmphloalbhnaa

/-
  Opening an argument that is a number of fe.
-/
namespace Go.Proofs.Ythlmphloalbhnaa
open Go.ChangeShapes Go.WideShapes Go.ChangeAt Go.RowKit MS
theorem open_num {P : Program} {w : World} {base b0 : Nat} {spare : Nat → Bool} {held : Bool} {r : Reach} {t e : TypeId} {v : Value} {H : Type} {enc : TypeId × Value → H} {d : DataW H} {ps : List MemPlace}
    (ht : P.underlying t = some (.array 5 e)) (he : P.underlying e = some (.int .u64)) (hc : P.cellsOf e = 1) (hn : P.cellsOf t = 5)
    (hval : Value.okWide P w r b0 t v) (hd : DataW.Trod enc P w base spare held t v d ps) : ∃ x : N5, x.ok ∧ v = .agg (nvA x) := by
  obtain ⟨a, hs, hb, rfl⟩ := open_w64 ht he hc hn hval hd
  refine ⟨⟨a.getD 0 0, a.getD 1 0, a.getD 2 0, a.getD 3 0, a.getD 4 0⟩, ⟨hb 0, hb 1, hb 2, hb 3, hb 4⟩, ?_⟩
  congr 1
  apply Array.ext
  · simp [nvA, hs]
  · intro i h1 h2
    have hi : i < 5 := by simpa [hs] using h1
    have : i = 0 ∨ i = 1 ∨ i = 2 ∨ i = 3 ∨ i = 4 := by omega
    rcases this with rfl | rfl | rfl | rfl | rfl <;> simp [nvA, hs]
end Go.Proofs.Ythlmphloalbhnaa
