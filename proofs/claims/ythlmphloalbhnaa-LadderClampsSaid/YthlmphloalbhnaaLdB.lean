/-
  ladder.Clamp, Base; mailsackref04.Clamp: the walks.
-/
import Derived.Test.YthlmphloalbhnaaOwnF
import Derived.Test.YthlmphloalbhnaaOwn2
import Derived.Test.YthlmphloalbhnaaLdA
import Derived.Test.YthlmphloalbhnaaTwo
import Derived.Test.YthlmphloalbhnaaRFh
import Derived.Deep.RegionWith
namespace Go.Proofs.Ythlmphloalbhnaa
open Go.RowKit MS

theorem vls_get (l : List UInt8) (i : Nat) (h : i < l.length) : (vls l)[i]? = some (.int .u8 ((l.getD i 0).toNat : Int)) := by simp [vls, valB, h]
def clampL (l : List UInt8) : List UInt8 := (l.set 0 (UInt8.ofNat ((l.getD 0 0).toNat - (l.getD 0 0).toNat % 8))).set 31 (UInt8.ofNat ((l.getD 31 0).toNat % 64 + 64))
def clampB (s : ByteArray) : ByteArray := bs (clampL (ls s))
theorem length_clampL (l : List UInt8) : (clampL l).length = l.length := by simp [clampL]
theorem and248 : ∀ n : Fin 256, bits .and .u8 ((n.val : Nat) : Int) 248 = ((UInt8.ofNat (n.val - n.val % 8)).toNat : Int) := by decide +kernel
theorem and127 : ∀ n : Fin 256, bits .or .u8 (bits .and .u8 ((n.val : Nat) : Int) 127) 64 = ((UInt8.ofNat (n.val % 64 + 64)).toNat : Int) := by decide +kernel

set_option maxRecDepth 1000000 in
set_option maxHeartbeats 1000000 in
theorem clamp_no (s : ByteArray) (w : World) (hs : s.size ≠ 32) : Calls Try.prog 31 #[.string s] w fun e w' => e = .returned (.tuple #[.string ⟨#[]⟩, .bool false]) ∧ Below w.heap.size w w' := by
  have h1 : ¬ (s.size : Int) = 32 := by omega
  have h2 : ((s.size : Int) != 32) = true := by simp; omega
  clear hs
  go_enter Try.func31, Try.ntmps31
  go_wp2_with fail
  go_ret2
  exact ⟨rfl, Below.refl _ _⟩

set_option maxRecDepth 1000000 in
set_option maxHeartbeats 1000000 in
theorem clamp_yes (s : ByteArray) (w : World) (hs : s.size = 32) : Calls Try.prog 31 #[.string s] w fun e w' => e = .returned (.tuple #[.string (clampB s), .bool true]) ∧ Below w.heap.size w w' := by
  have h1 : (s.size : Int) = 32 := by omega
  have h2 : ((s.size : Int) != 32) = false := by simp; omega
  have hl : (ls s).length = 32 := by rw [length_ls]; exact hs
  have B0 := Lib.hid (Below.refl w.heap.size w)
  have HL := Lib.hid hl
  have HS := Lib.hid hs
  have HC := Lib.hid (show clampB s = bs (((ls s).set 0 (UInt8.ofNat (((ls s).getD 0 0).toNat - ((ls s).getD 0 0).toNat % 8))).set 31 (UInt8.ofNat (((ls s).getD 31 0).toNat % 64 + 64))) from rfl)
  generalize clampB s = R at HC ⊢
  clear hs hl
  go_enter Try.func31, Try.ntmps31
  go_wp2_with (refine wpList_conv_own rfl (.tmp 8) 9 54 5 rfl s rfl Try.underlying9 Try.underlying54 Try.underlying5 w.heap.size 32 HS.out (Nat.le_refl _) (by decide) ?_)
  intro g cap w3 o3 hb3
  have O3 := Lib.hid (show ownsF w3 w.heap.size 5 (.slice (some ⟨g, 0, none⟩) 32 cap) 32 (vls (ls s)) from o3)
  have B3 := Lib.hid hb3
  clear o3 hb3
  have c0 := O3.out.cell 0 (by decide)
  have c31 := O3.out.cell 31 (by decide)
  have f0 := O3.out.free 0 (by decide)
  have f31 := O3.out.free 31 (by decide)
  rw [vls_get _ _ (by rw [HL.out]; decide)] at c0 c31
  have e0 := and248 ⟨((ls s).getD 0 0).toNat, UInt8.toNat_lt _⟩
  have e1 := and127 ⟨((ls s).getD 31 0).toNat, UInt8.toNat_lt _⟩
  simp only at e0 e1
  have hp := ((O3.out.put 0 (.int .u8 ((UInt8.ofNat (((ls s).getD 0 0).toNat - ((ls s).getD 0 0).toNat % 8)).toNat : Int))).put 31 (.int .u8 (bits .and .u8 (((ls s).getD 31 0).toNat : Int) 127))).put 31 (.int .u8 ((UInt8.ofNat (((ls s).getD 31 0).toNat % 64 + 64)).toNat : Int))
  rw [List.set_set] at hp
  have hconv := ownsF_conv _ w.heap.size 54 9 5 Try.underlying54 Try.underlying5 Try.underlying9 (l := ((ls s).set 0 (UInt8.ofNat (((ls s).getD 0 0).toNat - ((ls s).getD 0 0).toNat % 8))).set 31 (UInt8.ofNat (((ls s).getD 31 0).toNat % 64 + 64))) (by rw [List.map_set, List.map_set]; exact hp) 0 32 cap (by decide)
  rw [List.drop_zero, List.take_of_length_le (by rw [List.length_set, List.length_set, HL.out]; decide), ← HC.out] at hconv
  have hge := O3.out.ge
  have HBE := Lib.hid (((B3.out.setCell (p := ⟨g, 0, none⟩) hge (.int .u8 ((UInt8.ofNat (((ls s).getD 0 0).toNat - ((ls s).getD 0 0).toNat % 8)).toNat : Int))).setCell (p := ⟨g, 31, none⟩) hge (.int .u8 (bits .and .u8 (((ls s).getD 31 0).toNat : Int) 127))).setCell (p := ⟨g, 31, none⟩) hge (.int .u8 ((UInt8.ofNat (((ls s).getD 31 0).toNat % 64 + 64)).toNat : Int)))
  generalize (UInt8.ofNat (((ls s).getD 31 0).toNat % 64 + 64)).toNat = y31 at *
  generalize (UInt8.ofNat (((ls s).getD 0 0).toNat - ((ls s).getD 0 0).toNat % 8)).toNat = y0 at *
  generalize ((ls s).getD 31 0).toNat = x31 at *
  generalize ((ls s).getD 0 0).toNat = x0 at *
  clear hp hge
  go_wp2_with fail
  go_ret2
  exact ⟨rfl, HBE.out⟩

theorem clampB_parts (s : ByteArray) (hs : s.size = 32) : bs [UInt8.ofNat (((ls s).getD 0 0).toNat - ((ls s).getD 0 0).toNat % 8)] ++ s.extract 1 31 ++ bs [UInt8.ofNat (((ls s).getD 31 0).toNat % 64 + 64)] = clampB s := by
  have hl : (ls s).length = 32 := by rw [length_ls]; exact hs
  apply ls_inj
  rw [ls_append, ls_append, ls_extract, clampB, ls_bs, ls_bs, ls_bs]
  unfold clampL
  generalize ls s = l at hl
  match l, hl with
  | [a0, a1, a2, a3, a4, a5, a6, a7, a8, a9, a10, a11, a12, a13, a14, a15, a16, a17, a18, a19, a20, a21, a22, a23, a24, a25, a26, a27, a28, a29, a30, a31], _ => rfl

def q1 (c1 c2 : Value) : Nat → Value → Act → Act
  | 0, _, a => a
  | 1, s, a => a.put (some 16) s
  | 2, s, a => (a.put (some 16) s).put (some 17) c1
  | _, s, a => ((a.put (some 16) s).put (some 17) c1).put (some 20) c2
def q2 (c : Value) : Nat → Value → Act → Act
  | 0, _, a => a
  | 1, s, a => a.put (some 25) s
  | _, s, a => (a.put (some 25) s).put (some 26) c
theorem put_swap (a : Act) (x y : Nat) (v u : Value) (h : x ≠ y) : (a.put (some x) v).put (some y) u = (a.put (some y) u).put (some x) v := Act.put_comm a v u (by intro d hd e; cases hd; cases e; exact h rfl)
theorem q2_put (c s v : Value) (k d : Nat) (a : Act) (h1 : 25 ≠ d) (h2 : 26 ≠ d) : (q2 c k s a).put (some d) v = q2 c k s (a.put (some d) v) := by
  match k with
  | 0 => rfl
  | 1 => exact put_swap _ _ _ _ _ h1
  | k + 2 =>
    show ((a.put (some 25) s).put (some 26) c).put (some d) v = ((a.put (some d) v).put (some 25) s).put (some 26) c
    rw [put_swap _ _ _ _ _ h2, put_swap _ _ _ _ _ h1]
theorem q2_eval (c s : Value) (k j : Nat) (a : Act) (h1 : 25 ≠ j) (h2 : 26 ≠ j) : (q2 c k s a).eval (.tmp j) = a.eval (.tmp j) := by
  match k with
  | 0 => rfl
  | 1 => exact Act.eval_put_ne _ _ _ _ h1
  | k + 2 =>
    show ((a.put (some 25) s).put (some 26) c).eval (.tmp j) = a.eval (.tmp j)
    rw [Act.eval_put_ne _ _ _ _ h2, Act.eval_put_ne _ _ _ _ h1]
theorem q1_eval (c1 c2 s : Value) (k j : Nat) (a : Act) (h1 : 16 ≠ j) (h2 : 17 ≠ j) (h3 : 20 ≠ j) : (q1 c1 c2 k s a).eval (.tmp j) = a.eval (.tmp j) := by
  match k with
  | 0 => rfl
  | 1 => exact Act.eval_put_ne _ _ _ _ h1
  | 2 =>
    show ((a.put (some 16) s).put (some 17) c1).eval (.tmp j) = a.eval (.tmp j)
    rw [Act.eval_put_ne _ _ _ _ h2, Act.eval_put_ne _ _ _ _ h1]
  | k + 3 =>
    show (((a.put (some 16) s).put (some 17) c1).put (some 20) c2).eval (.tmp j) = a.eval (.tmp j)
    rw [Act.eval_put_ne _ _ _ _ h3, Act.eval_put_ne _ _ _ _ h2, Act.eval_put_ne _ _ _ _ h1]
theorem put_sz (a : Act) (d : Option Nat) (v : Value) : (a.put d v).tmps.size = a.tmps.size := by cases d <;> simp [Act.put]
theorem q1_size (c1 c2 s : Value) (k : Nat) (a : Act) : (q1 c1 c2 k s a).tmps.size = a.tmps.size := by
  match k with
  | 0 => rfl
  | 1 => exact put_sz _ _ _
  | 2 => simp only [q1, put_sz]
  | k + 3 => simp only [q1, put_sz]

/-- The last statement of Clamp, its pure operations behind it: two strings of one byte each are made, in whatever order, and joined. -/
theorem clamp_region {ops : Array Oper} {Q : Exit → Act → World → Prop} {A : Act} {w w0 : World} {o5 o6 o9 o14 o15 o16 o17 : Oper} {x y : UInt8} {m : ByteArray} {L : Array Bool}
    (h5 : ops[5]? = some o5) (h6 : ops[6]? = some o6) (h9 : ops[9]? = some o9) (h14 : ops[14]? = some o14) (h15 : ops[15]? = some o15) (h16 : ops[16]? = some o16) (h17 : ops[17]? = some o17)
    (g5 : o5.guard = none) (g6 : o6.guard = none) (g9 : o9.guard = none) (g14 : o14.guard = none) (g15 : o15.guard = none) (g16 : o16.guard = none) (g17 : o17.guard = none)
    (d5 : o5.dst = some 16) (d6 : o6.dst = some 17) (d9 : o9.dst = some 20) (d14 : o14.dst = some 25) (d15 : o15.dst = some 26) (d16 : o16.dst = some 27) (d17 : o17.dst = some 2)
    (p5 : o5.op = .buildSlice 54 1 #[(0, .tmp 15)]) (p6 : o6.op = .convert 54 9 (.tmp 16)) (p9 : o9.op = .binOp .add 9 (.tmp 17) (.tmp 19) 9)
    (p14 : o14.op = .buildSlice 54 1 #[(0, .tmp 24)]) (p15 : o15.op = .convert 54 9 (.tmp 25)) (p16 : o16.op = .binOp .add 9 (.tmp 20) (.tmp 26) 9) (p17 : o17.op = .assign (.tmp 27))
    (hB : twoB .any ops L [5, 6, 9] [14, 15] = true) (r1 : Region.ready .any ops (lst L [5, 6, 9] [14, 15] 3 2) = [16]) (r2 : Region.ready .any ops ((lst L [5, 6, 9] [14, 15] 3 2).setIfInBounds 16 true) = [17])
    (r3 : Region.ready .any ops (((lst L [5, 6, 9] [14, 15] 3 2).setIfInBounds 16 true).setIfInBounds 17 true) = []) (hsz : 28 ≤ A.tmps.size)
    (hx : A.eval (.tmp 15) = .int .u8 (x.toNat : Int)) (hy : A.eval (.tmp 24) = .int .u8 (y.toNat : Int)) (hm : A.eval (.tmp 19) = .string m) (hms : m.size ≤ 1000) (hb : Below w0.heap.size w0 w)
    (hK : ∀ s16 s25 w', Below w0.heap.size w0 w' → Q .normal (((((((A.put (some 16) s16).put (some 17) (.string (bs [x]))).put (some 20) (.string (bs [x] ++ m))).put (some 25) s25).put (some 26) (.string (bs [y]))).put (some 27) (.string (bs [x] ++ m ++ bs [y]))).put (some 2) (.string (bs [x] ++ m ++ bs [y]))) w') :
    wpAny Try.prog .any ops Q 7 (lst L [5, 6, 9] [14, 15] 0 0) A w := by
  have same : ∀ (a : Act) (d : Nat) v, d < a.tmps.size → (a.put (some d) v).eval (.tmp d) = v := Act.eval_put_same
  have wn : ∀ (o : Oper) (a : Act), o.guard = none → Region.wanted o (yielded ops a.tmps) = true := fun o a h => by simp [Region.wanted, h]
  have cv : ∀ (w' : World) (g : Nat) (b : UInt8), w'.heap[g]? = some (.cells #[.int .u8 (b.toNat : Int)] 5 (0, 0)) → (convert 54 9 (.slice (some ⟨g, 0, none⟩) 1 1)).run Try.prog w' = .ok (.string (bs [b])) w' := fun w' g b hr =>
    run_block_to_string w' 54 9 5 Try.underlying54 Try.underlying5 Try.underlying9 g 1 1 5 (0, 0) [b] _ hr rfl (fun j hj => by
      have h0 : j = 0 := by simpa using hj
      subst h0
      rfl)
  have ad : ∀ (o : Oper) (a : Act) (p q : Nat) (b c : ByteArray) (w' : World), o.op = .binOp .add 9 (.tmp p) (.tmp q) 9 → a.eval (.tmp p) = .string b → a.eval (.tmp q) = .string c → b.size ≤ 2000 → c.size ≤ 2000 → (execOp a.eval o).run Try.prog w' = .ok (.value (.string (b ++ c))) w' := fun o a p q b c w' ho hp hq k1 k2 => by
    have k3 : (b.size : Int) + c.size ≤ 4000 := by omega
    unfold execOp
    simp only [ho, hp, hq]
    go_simp
    omega
  let c1 : Value := .string (bs [x])
  let c2 : Value := .string (bs [x] ++ m)
  let cc : Value := .string (bs [y])
  refine two_chains (f := 2) [5, 6, 9] [14, 15] (fun k1 k2 a w' => ∃ s16 s25, a = q2 cc k2 s25 (q1 c1 c2 k1 s16 A) ∧ Below w0.heap.size w0 w' ∧ (k1 = 1 → ∃ g, s16 = .slice (some ⟨g, 0, none⟩) 1 1 ∧ w'.heap[g]? = some (.cells #[.int .u8 (x.toNat : Int)] 5 (0, 0))) ∧
    (k2 = 1 → ∃ g, s25 = .slice (some ⟨g, 0, none⟩) 1 1 ∧ w'.heap[g]? = some (.cells #[.int .u8 (y.toNat : Int)] 5 (0, 0)))) hB ?_ ?_ ?_ 5 0 0 A w rfl (by decide) (by decide) ⟨undef, undef, rfl, hb, fun h => absurd h (by decide), fun h => absurd h (by decide)⟩
  · intro k1 k2 a w' hk1 hk2 ⟨s16, s25, ha, hb', f1, f2⟩
    have keep : ∀ (g : Nat) (o o' : Obj), w'.heap[g]? = some o → (w'.alloc o').heap[g]? = some o := fun g o o' h => by rw [heap_alloc_old _ _ (Array.getElem?_eq_some_iff.1 h).1]; exact h
    match k1, hk1 with
    | 0, _ =>
      refine wpOp_build1 (u := .int .u8 (x.toNat : Int)) h5 g5 d5 p5 (run_build_u8 _ _ rfl) (by rw [ha, q2_eval _ _ _ _ _ (by decide) (by decide)]; exact hx) ⟨.slice (some ⟨w'.heap.size, 0, none⟩) 1 1, s25, ?_, below_alloc hb' _, fun _ => ⟨_, rfl, heap_alloc_new _ _⟩, fun h => ?_⟩
      · rw [ha, q2_put _ _ _ _ _ _ (by decide) (by decide)]
        rfl
      · obtain ⟨g, e1, e2⟩ := f2 h
        exact ⟨g, e1, keep _ _ _ e2⟩
    | 1, _ =>
      obtain ⟨g, e1, e2⟩ := f1 rfl
      have hev : a.eval (.tmp 16) = .slice (some ⟨g, 0, none⟩) 1 1 := by
        rw [ha, q2_eval _ _ _ _ _ (by decide) (by decide), ← e1]
        exact same _ _ _ (by omega)
      refine wpOp_val (v := c1) h6 (wn _ _ g6) d6 (by unfold execOp; simp only [p6, hev]; rw [Sem.run_bind, cv _ _ _ e2]; rfl) ⟨s16, s25, ?_, hb', fun h => absurd h (by decide), f2⟩
      rw [ha, q2_put _ _ _ _ _ _ (by decide) (by decide)]
      rfl
    | 2, _ =>
      have hev : a.eval (.tmp 17) = .string (bs [x]) := by
        rw [ha, q2_eval _ _ _ _ _ (by decide) (by decide)]
        exact same _ _ _ (by rw [put_sz]; omega)
      have hev2 : a.eval (.tmp 19) = .string m := by
        rw [ha, q2_eval _ _ _ _ _ (by decide) (by decide), q1_eval _ _ _ _ _ _ (by decide) (by decide) (by decide)]
        exact hm
      refine wpOp_val (v := c2) h9 (wn _ _ g9) d9 (ad _ _ _ _ _ _ _ p9 hev hev2 (by rw [size_bs]; simp) (by omega)) ⟨s16, s25, ?_, hb', fun h => absurd h (by decide), f2⟩
      rw [ha, q2_put _ _ _ _ _ _ (by decide) (by decide)]
      rfl
  · intro k1 k2 a w' hk1 hk2 ⟨s16, s25, ha, hb', f1, f2⟩
    have keep : ∀ (g : Nat) (o o' : Obj), w'.heap[g]? = some o → (w'.alloc o').heap[g]? = some o := fun g o o' h => by rw [heap_alloc_old _ _ (Array.getElem?_eq_some_iff.1 h).1]; exact h
    match k2, hk2 with
    | 0, _ =>
      refine wpOp_build1 (u := .int .u8 (y.toNat : Int)) h14 g14 d14 p14 (run_build_u8 _ _ rfl) (by rw [ha, q2_eval _ _ _ _ _ (by decide) (by decide), q1_eval _ _ _ _ _ _ (by decide) (by decide) (by decide)]; exact hy) ⟨s16, .slice (some ⟨w'.heap.size, 0, none⟩) 1 1, ?_, below_alloc hb' _, fun h => ?_, fun _ => ⟨_, rfl, heap_alloc_new _ _⟩⟩
      · rw [ha]
        rfl
      · obtain ⟨g, e1, e2⟩ := f1 h
        exact ⟨g, e1, keep _ _ _ e2⟩
    | 1, _ =>
      obtain ⟨g, e1, e2⟩ := f2 rfl
      have hev : a.eval (.tmp 25) = .slice (some ⟨g, 0, none⟩) 1 1 := by
        rw [ha, ← e1]
        exact same _ _ _ (by rw [q1_size]; omega)
      refine wpOp_val (v := cc) h15 (wn _ _ g15) d15 (by unfold execOp; simp only [p15, hev]; rw [Sem.run_bind, cv _ _ _ e2]; rfl) ⟨s16, s25, ?_, hb', f1, fun h => absurd h (by decide)⟩
      rw [ha]
      rfl
  · rintro a w' ⟨s16, s25, rfl, hb', -, -⟩
    have e1 : ((((((A.put (some 16) s16).put (some 17) c1).put (some 20) c2).put (some 25) s25).put (some 26) cc)).eval (.tmp 20) = .string (bs [x] ++ m) := by
      rw [Act.eval_put_ne _ _ _ _ (by decide), Act.eval_put_ne _ _ _ _ (by decide)]
      exact same _ _ _ (by simp only [put_sz]; omega)
    have e2 : ((((((A.put (some 16) s16).put (some 17) c1).put (some 20) c2).put (some 25) s25).put (some 26) cc)).eval (.tmp 26) = .string (bs [y]) := same _ _ _ (by simp only [put_sz]; omega)
    refine wpAny_all (rs := [16]) r1 (by simp) (List.forall_mem_singleton.2 ?_)
    refine wpOp_val (v := .string (bs [x] ++ m ++ bs [y])) h16 (wn _ _ g16) d16 (ad _ _ _ _ _ _ _ p16 e1 e2 (by rw [ByteArray.size_append, size_bs]; simp; omega) (by rw [size_bs]; simp)) ?_
    refine wpAny_all (rs := [17]) r2 (by simp) (List.forall_mem_singleton.2 ?_)
    refine wpOp_assign h17 g17 d17 p17 (same _ _ _ (by show 27 < ((((((A.put (some 16) s16).put (some 17) c1).put (some 20) c2).put (some 25) s25).put (some 26) cc)).tmps.size; simp only [put_sz]; omega)) ?_
    exact wpAny_done r3 (hK _ _ _ hb') _

set_option maxRecDepth 1000000 in
set_option maxHeartbeats 4000000 in
theorem rclamp_any (s : ByteArray) (w : World) (hs : s.size = 32) : Calls Try.prog 32 #[.string s] w fun e w' => e = .returned (.string (clampB s)) ∧ Below w.heap.size w w' := by
  have h1 : (0 : Int) < s.size := by omega
  have h2 : (31 : Int) < s.size := by omega
  have h3 : (31 : Int) ≤ s.size := by omega
  have h4 : (1 : Int) ≤ s.size := by omega
  have hg0 := ls_get s 0 (by omega)
  have hg31 := ls_get s 31 (by omega)
  have HP := Lib.hid (clampB_parts s hs)
  have HX : (s.extract 1 31).size = 30 := by simp [hs]
  have k0 : ((ls s).getD 0 0).toNat < 256 := UInt8.toNat_lt _
  have k31 : ((ls s).getD 31 0).toNat < 256 := UInt8.toNat_lt _
  generalize clampB s = R at HP ⊢
  generalize (ls s).getD 0 0 = x0 at *
  generalize (ls s).getD 31 0 = x31 at *
  have B0 := Lib.hid (Below.refl w.heap.size w)
  go_enter Try.func32, Try.ntmps32
  go_wp2_with fail
  go_quiet (fail)
  go_wp2_with fail
  have e0 : IntKind.u8.wrap ((x0.toNat : Int) - (x0.toNat : Int) % 8) = ((UInt8.ofNat (x0.toNat - x0.toNat % 8)).toNat : Int) := by
    rw [wr_u8 _ (by omega) (by omega), UInt8.toNat_ofNat', Nat.mod_eq_of_lt (by omega)]
    omega
  have e1 : IntKind.u8.wrap ((x31.toNat : Int) % 64 + 64) = ((UInt8.ofNat (x31.toNat % 64 + 64)).toNat : Int) := by
    rw [wr_u8 _ (by omega) (by omega), UInt8.toNat_ofNat', Nat.mod_eq_of_lt (by omega)]
    omega
  refine wp_region_any (by kernel_rfl) ?_
  change wpAny _ _ _ _ _ _ _ (World.drew _)
  refine wpAny_take_at (i := 0) (d := 11) (v := .int .i64 (x0.toNat : Int)) rfl (by kernel_rfl) (by kernel_rfl) (by kernel_rfl) (fun _ _ _ h => h) rfl (Or.inl ⟨by rfl, by intro w1; go_simp⟩) ?_
  simp only [Act.put, List.setIfInBounds_toArray, List.set_cons_zero, List.set_cons_succ]
  refine wpAny_take_at (i := 1) (d := 12) (v := .int .i64 (x0.toNat : Int)) rfl (by kernel_rfl) (by kernel_rfl) (by kernel_rfl) (fun _ _ _ h => h) rfl (Or.inl ⟨by rfl, by intro w1; go_simp⟩) ?_
  simp only [Act.put, List.setIfInBounds_toArray, List.set_cons_zero, List.set_cons_succ]
  refine wpAny_take_at (i := 2) (d := 13) (v := .int .i64 ((x0.toNat : Int) % 8)) rfl (by kernel_rfl) (by kernel_rfl) (by kernel_rfl) (fun _ _ _ h => h) rfl (Or.inl ⟨by rfl, by intro w1; go_simp; exact Int.tmod_eq_emod_of_nonneg (Int.natCast_nonneg _)⟩) ?_
  simp only [Act.put, List.setIfInBounds_toArray, List.set_cons_zero, List.set_cons_succ]
  refine wpAny_take_at (i := 3) (d := 14) (v := .int .i64 ((x0.toNat : Int) - (x0.toNat : Int) % 8)) rfl (by kernel_rfl) (by kernel_rfl) (by kernel_rfl) (fun _ _ _ h => h) rfl (Or.inl ⟨by rfl, by intro w1; go_simp; exact wr_i64 _ (by omega) (by omega)⟩) ?_
  simp only [Act.put, List.setIfInBounds_toArray, List.set_cons_zero, List.set_cons_succ]
  refine wpAny_take_at (i := 4) (d := 15) (v := .int .u8 ((UInt8.ofNat (x0.toNat - x0.toNat % 8)).toNat : Int)) rfl (by kernel_rfl) (by kernel_rfl) (by kernel_rfl) (fun _ _ _ h => h) rfl (Or.inl ⟨by rfl, by intro w1; go_simp⟩) ?_
  simp only [Act.put, List.setIfInBounds_toArray, List.set_cons_zero, List.set_cons_succ]
  refine wpAny_take_at (i := 7) (d := 18) (v := .string s) rfl (by kernel_rfl) (by kernel_rfl) (by kernel_rfl) (fun _ _ _ h => h) rfl (Or.inl ⟨by rfl, by intro w1; go_simp⟩) ?_
  simp only [Act.put, List.setIfInBounds_toArray, List.set_cons_zero, List.set_cons_succ]
  refine wpAny_take_at (i := 8) (d := 19) (v := .string (s.extract 1 31)) rfl (by kernel_rfl) (by kernel_rfl) (by kernel_rfl) (fun _ _ _ h => h) rfl (Or.inl ⟨by rfl, by intro w1; go_simp⟩) ?_
  simp only [Act.put, List.setIfInBounds_toArray, List.set_cons_zero, List.set_cons_succ]
  refine wpAny_take_at (i := 10) (d := 21) (v := .int .i64 (x31.toNat : Int)) rfl (by kernel_rfl) (by kernel_rfl) (by kernel_rfl) (fun _ _ _ h => h) rfl (Or.inl ⟨by rfl, by intro w1; go_simp⟩) ?_
  simp only [Act.put, List.setIfInBounds_toArray, List.set_cons_zero, List.set_cons_succ]
  refine wpAny_take_at (i := 11) (d := 22) (v := .int .i64 ((x31.toNat : Int) % 64)) rfl (by kernel_rfl) (by kernel_rfl) (by kernel_rfl) (fun _ _ _ h => h) rfl (Or.inl ⟨by rfl, by intro w1; go_simp; exact Int.tmod_eq_emod_of_nonneg (Int.natCast_nonneg _)⟩) ?_
  simp only [Act.put, List.setIfInBounds_toArray, List.set_cons_zero, List.set_cons_succ]
  refine wpAny_take_at (i := 12) (d := 23) (v := .int .i64 ((x31.toNat : Int) % 64 + 64)) rfl (by kernel_rfl) (by kernel_rfl) (by kernel_rfl) (fun _ _ _ h => h) rfl (Or.inl ⟨by rfl, by intro w1; go_simp; exact wr_i64 _ (by omega) (by omega)⟩) ?_
  simp only [Act.put, List.setIfInBounds_toArray, List.set_cons_zero, List.set_cons_succ]
  refine wpAny_take_at (i := 13) (d := 24) (v := .int .u8 ((UInt8.ofNat (x31.toNat % 64 + 64)).toNat : Int)) rfl (by kernel_rfl) (by kernel_rfl) (by kernel_rfl) (fun _ _ _ h => h) rfl (Or.inl ⟨by rfl, by intro w1; go_simp⟩) ?_
  simp only [Act.put, List.setIfInBounds_toArray, List.set_cons_zero, List.set_cons_succ]
  change wpAny _ _ _ _ 7 (lst #[true, true, true, true, true, false, false, true, true, false, true, true, true, true, false, false, false, false] [5, 6, 9] [14, 15] 0 0) _ _
  refine clamp_region (x := UInt8.ofNat (x0.toNat - x0.toNat % 8)) (y := UInt8.ofNat (x31.toNat % 64 + 64)) (m := s.extract 1 31) (w0 := w) (by rfl) (by rfl) (by rfl) (by rfl) (by rfl) (by rfl) (by rfl) (by rfl) (by rfl) (by rfl) (by rfl) (by rfl) (by rfl) (by rfl) (by rfl) (by rfl) (by rfl) (by rfl) (by rfl) (by rfl) (by rfl) (by rfl) (by rfl) (by rfl) (by rfl) (by rfl) (by rfl) (by rfl)
    (by kernel_rfl) (by kernel_rfl) (by kernel_rfl) (by kernel_rfl) (by simp) (by rfl) (by rfl) (by rfl) (by omega) (below_drewN B0.out nq).drew ?_
  intro s16 s25 w1 hb1
  rw [HP.out]
  simp only [Act.put, List.setIfInBounds_toArray, List.set_cons_zero, List.set_cons_succ]
  go_wp2_with fail
  go_ret
  exact ⟨rfl, hb1⟩

theorem conv_block (w : World) (g T : Nat) (l : List UInt8) (n : Nat) (hl : l.length = n) (hb : w.heap[g]? = some (.cells (vls l).toArray T (0, 0))) :
    (convert 54 9 (.slice (some ⟨g, 0, none⟩) n n)).run Try.prog w = .ok (.string (bs l)) w := by
  refine run_block_to_string w 54 9 5 Try.underlying54 Try.underlying5 Try.underlying9 g n n T (0, 0) l (cs := (vls l).toArray) hb hl (fun j hj => ?_)
  simp [vls, valB, hj]
set_option maxRecDepth 1000000 in
set_option maxHeartbeats 1000000 in
theorem base_any (w : World) : Calls Try.prog 33 #[] w fun e w' => e = .returned (.string (bs (9 :: List.replicate 31 0))) ∧ Below w.heap.size w w' := by
  have B0 := Lib.hid (Below.refl w.heap.size w)
  have hconv := conv_block (w.alloc (.cells #[.int .u8 9, .int .u8 0, .int .u8 0, .int .u8 0, .int .u8 0, .int .u8 0, .int .u8 0, .int .u8 0, .int .u8 0, .int .u8 0, .int .u8 0, .int .u8 0, .int .u8 0, .int .u8 0, .int .u8 0, .int .u8 0, .int .u8 0, .int .u8 0, .int .u8 0, .int .u8 0, .int .u8 0, .int .u8 0, .int .u8 0, .int .u8 0, .int .u8 0, .int .u8 0, .int .u8 0, .int .u8 0, .int .u8 0, .int .u8 0, .int .u8 0, .int .u8 0] 60 (0, 0))) w.heap.size 60 (9 :: List.replicate 31 0) 32 rfl (heap_alloc_new _ _)
  go_enter Try.func33, Try.ntmps33
  go_wp2_with fail
  go_ret
  exact ⟨rfl, below_alloc B0.out _⟩
end Go.Proofs.Ythlmphloalbhnaa
