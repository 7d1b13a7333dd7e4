/-
  mac.mask: the walk.
-/
import Derived.Test.YtkbfflnjbafamaaDoorShaW
import Derived.Room.AppendStr
namespace Go.Proofs.YtkbfflnjbafamaaDoor
open Go.RowKit MS

def mixl (l : List UInt8) (f : Nat → UInt8) (p : Nat) : List UInt8 := (List.range l.length).map fun i => if i < p then l.getD i 0 ^^^ f i else l.getD i 0
theorem length_mixl (l : List UInt8) (f : Nat → UInt8) (p : Nat) : (mixl l f p).length = l.length := by simp [mixl]
theorem mixl_zero (l : List UInt8) (f : Nat → UInt8) : mixl l f 0 = l := by
  apply List.ext_getElem?
  intro i
  by_cases h : i < l.length
  · simp [mixl, h]
  · simp [mixl, h]
theorem mixl_get (l : List UInt8) (f : Nat → UInt8) (p i : Nat) (h : i < l.length) : (mixl l f p)[i]? = some (if i < p then l.getD i 0 ^^^ f i else l.getD i 0) := by
  simp [mixl, h]
theorem mixl_step (l : List UInt8) (f : Nat → UInt8) (p : Nat) (hp : p < l.length) : (mixl l f p).set p (l.getD p 0 ^^^ f p) = mixl l f (p + 1) := by
  apply List.ext_getElem?
  intro i
  rw [List.getElem?_set, length_mixl]
  by_cases h : i < l.length
  · rw [mixl_get _ _ _ _ h, mixl_get _ _ _ _ h]
    by_cases e : p = i
    · subst e
      rw [if_pos rfl, if_pos hp, if_pos (Nat.lt_succ_self p)]
    · rw [if_neg e]
      congr 1
      by_cases h2 : i < p
      · rw [if_pos h2, if_pos (by omega)]
      · rw [if_neg h2, if_neg (by omega)]
  · rw [if_neg (by omega), List.getElem?_eq_none (by rw [length_mixl]; omega), List.getElem?_eq_none (by rw [length_mixl]; omega)]
theorem mixl_getD (l : List UInt8) (f : Nat → UInt8) (p : Nat) (h : p < l.length) : (mixl l f p).getD p 0 = l.getD p 0 := by
  rw [List.getD_eq_getElem?_getD, mixl_get _ _ _ _ h, if_neg (Nat.lt_irrefl p)]
  rfl

/-- The key's bytes, filled up to 64, each turned by b. -/
def mkL (k : List UInt8) (b : UInt8) : List UInt8 := (List.range 64).map fun i => k.getD i 0 ^^^ b
theorem mkL_of (k : List UInt8) (b : UInt8) (N : Nat) (hk : k.length ≤ 64) (hN : 64 ≤ N) : (mixl (k ++ List.replicate (N - k.length) 0) (fun _ => b) 64).take 64 = mkL k b := by
  apply List.ext_getElem?
  intro i
  rw [List.getElem?_take]
  by_cases h : i < 64
  · rw [if_pos h, mixl_get _ _ _ _ (by simp; omega), if_pos h, mkL, List.getElem?_map, List.getElem?_range h, Option.map_some]
    congr 2
    by_cases h2 : i < k.length
    · simp [List.getD_eq_getElem?_getD, List.getElem?_append, h2]
    · rw [List.getD_eq_getElem?_getD, List.getD_eq_getElem?_getD, List.getElem?_append_right (by omega), List.getElem?_eq_none (by omega : k.length ≤ i), List.getElem?_replicate, if_pos (by omega)]
      rfl
  · rw [if_neg h, List.getElem?_eq_none (by simp [mkL]; omega)]
def maskB (k : ByteArray) (b : UInt8) (s : ByteArray) : ByteArray := bs (mkL (ls k) b ++ ls s)
theorem size_maskB (k : ByteArray) (b : UInt8) (s : ByteArray) : (maskB k b s).size = 64 + s.size := by
  rw [maskB, size_bs, List.length_append, length_ls, mkL, List.length_map, List.length_range]

theorem wpList_make_est {w : World} {ops : Array Oper} {rest : List Oper} {o : Oper} {a : Act} {Q : Exit → Act → World → Prop} (hgd : o.guard = none) (l c : Operand)
    (ho : o.op = Op.makeSlice 33 l c) (L N : Nat) (x y : Int) (hl : a.eval l = .int .i64 x) (hc : a.eval c = .int .i64 y) (hx : x = L) (hy : y = N) (hLN : L ≤ N) (hN : N ≤ 1000000)
    (h : ∀ w', ESt w.heap.size w (List.replicate N 0) w' → wpList Tryd.prog ops Q rest (a.put o.dst (.slice (some ⟨w.heap.size, 0, none⟩) L N)) w') : wpList Tryd.prog ops Q (o :: rest) a w := by
  refine wpList_plain hgd fun K hK => ?_
  obtain ⟨i8, hj0, hy0, hy1, hy2⟩ : ∃ i, Tryd.prog.info? 5 = some i ∧ i.zero = some (.int .u8 0) ∧ i.size = 1 ∧ i.bytes = 1 := ⟨_, rfl, rfl, rfl, rfl⟩
  have hrun := run_make (P := Tryd.prog) w 33 5 i8 (.int .u8 0) Tryd.underlying33 hj0 hy0 .i64 .i64 x y (by omega) (by omega) (by rw [hy2]; omega) (by omega)
  subst hx hy
  rw [hy1] at hrun
  simp only [Int.toNat_natCast, Nat.mul_one] at hrun
  have hz : madeCells (Value.int .u8 0).cells N = (vls (List.replicate N 0)).toArray := by
    apply Array.toList_inj.1
    exact zeros_made N
  rw [hz] at hrun
  have h' := h (w.alloc (.cells (vls (List.replicate N 0)).toArray 5 (0, 0))) ⟨Nat.le_refl _, (MapKept.heap_alloc w _).1, below_alloc (Below.refl _ _) _⟩
  unfold Oper.wp
  simp [execOp, ho, hl, hc, hrun, Result.andThen]
  exact hK _ _ h'
theorem wpList_copy_est2 {w : World} {ops : Array Oper} {rest : List Oper} {o : Oper} {a : Act} {Q : Exit → Act → World → Prop} (hgd : o.guard = none) (d s : Operand)
    (ho : o.op = .call { callee := .builtin .copy, args := #[d, s], argTypes := #[33, 9] })
    (g L n dCap : Nat) (str : ByteArray) (hd : a.eval d = .slice (some ⟨g, 0, none⟩) L dCap) (hs : a.eval s = .string str)
    (w0 : World) (hg : ESt g w0 (List.replicate n 0) w) (hle : str.size ≤ L) (hLn : L ≤ n)
    (h : ∀ w', ESt g w0 (ls str ++ List.replicate (n - (ls str).length) 0) w' → wpList Tryd.prog ops Q rest (a.put o.dst (goInt str.size)) w') : wpList Tryd.prog ops Q (o :: rest) a w := by
  refine wpList_plain hgd fun K hK => ?_
  have hrun := Lib.run_copy_row_string (P := Tryd.prog) w 33 9 o.type 5 g 0 L dCap str (vls (List.replicate n 0)).toArray 5 Tryd.underlying33 (by kernel_rfl) hg.ro hle (by simp [vls]; omega)
  have h' := h _ (est_copied hg str)
  generalize (w.setRow g _) = w' at hrun h'
  unfold Oper.wp
  simp [execOp, ho, resolve, invoke, builtin, hd, hs, hrun, Result.andThen]
  exact hK _ _ h'
theorem wpList_append_str {w : World} {ops : Array Oper} {rest : List Oper} {o : Oper} {a : Act} {Q : Exit → Act → World → Prop} (hgd : o.guard = none) (sl x : Operand)
    (ho : o.op = .call { callee := .builtin .append, args := #[sl, x], argTypes := #[33, 9] })
    (base : Nat) (v : Value) (n : Nat) (l : List UInt8) (hs : a.eval sl = v) (hown : w.ownsRow base 5 1 v n (vls l)) (s : ByteArray) (hx : a.eval x = .string s) (hb : n + s.size ≤ 1000000) (hbase : base ≤ w.heap.size)
    (h : ∀ v' w', w'.ownsRow base 5 1 v' (n + s.size) (vls (l ++ ls s)) → w.grownBy w' v.ownBlock → wpList Tryd.prog ops Q rest (a.put o.dst v') w') : wpList Tryd.prog ops Q (o :: rest) a w := by
  refine wpList_plain hgd fun K hK => ?_
  obtain ⟨i8, hj0, hy0, hy1, hy2⟩ : ∃ i, Tryd.prog.info? 5 = some i ∧ i.zero = some (.int .u8 0) ∧ i.size = 1 ∧ i.bytes = 1 := ⟨_, rfl, rfl, rfl, rfl⟩
  obtain ⟨v', w', hr, h2, h3, _⟩ := Lib.run_append_own_string (P := Tryd.prog) w base 33 9 o.type 5 i8 Tryd.underlying33 Tryd.underlying9 hj0 hy0 hy1 hy2 v n (vls l) hown s (by unfold maxLen; omega) (by omega) hbase
  have e : vls l ++ Lib.strCells s = vls (l ++ ls s) := by
    simp [vls, Lib.strCells, ls, valB]
  rw [e] at h2
  unfold Oper.wp execOp
  simp only [ho, resolve, invoke, builtin, Sem.run_bind, Sem.run_pure, Result.andThen_ok, List.map_toArray, List.map_cons, List.map_nil, hs, hx, hr]
  exact hK _ _ (h v' w' h2 h3)
theorem est_owns {g : Nat} {w0 w : World} {L : List UInt8} (h : ESt g w0 L w) (n N : Nat) (hn : n ≤ N) (hL : L.length = N) (hN : N ≤ 1000000) : w.ownsRow w0.heap.size 5 1 (.slice (some ⟨g, 0, none⟩) n N) n (vls (L.take n)) :=
  ⟨by simp [vls, hL, hn], .inr ⟨g, N, (vls L).toArray, rfl, h.ge, h.ro, hn, by unfold maxLen; omega, by simp [vls, hL], by simp [vls, List.map_take]⟩⟩
theorem ESt.byte {g : Nat} {w0 w : World} {L : List UInt8} (h : ESt g w0 L w) (i : Nat) (hi : i < L.length) : w.cell? ⟨g, i, none⟩ = some (.int .u8 ((L.getD i 0).toNat : Int)) := by
  rw [cell_of_row w g i _ _ _ h.ro]
  simp [vls, hi, valB]

set_option maxRecDepth 100000 in
set_option maxHeartbeats 1000000 in
theorem mask_any (k : ByteArray) (b : UInt8) (s : ByteArray) (w : World) (hk : k.size ≤ 64) (hs : s.size ≤ 100000) :
    Calls Tryd.prog 37 #[.string k, .int .u8 (b.toNat : Int), .string s] w fun e w' => e = .returned (.string (maskB k b s)) ∧ Below w.heap.size w w' := by
  have hl := length_ls k
  have sn : (0 : Int) ≤ s.size := by omega
  have sb : (s.size : Int) ≤ 100000 := by omega
  have HK := Lib.hid hk
  have HS := Lib.hid hs
  have HLK := Lib.hid hl
  have HMK := Lib.hid (mkL_of (ls k) b (64 + s.size) (by omega) (by omega))
  clear hk hs hl
  go_enter Tryd.func37, Tryd.ntmps37
  go_wp2_with (with_reducible refine wpList_make_est rfl (.const (.int .i64 64)) (.tmp 11) rfl 64 (64 + s.size) _ _ rfl rfl ?m1 ?m2 ?m3 ?m4 ?_)
  case m1 => rfl
  case m2 => omega
  case m3 => omega
  case m4 => have := HS.out; omega
  intro w1 st0
  have ST0 := Lib.hid st0
  have HN := Lib.hid (show 64 + s.size ≤ 100064 by have := HS.out; omega)
  have HN2 := Lib.hid (show 64 ≤ 64 + s.size by omega)
  have HNE := Lib.hid (show 64 + s.size = 64 + s.size from rfl)
  clear st0 HNE
  generalize hN : 64 + s.size = N at ST0 HN HN2 HMK ⊢
  generalize w.heap.size = g at ST0 ⊢
  have HNN := Lib.hid hN
  clear hN
  go_wp2_with (with_reducible refine wpList_copy_est2 rfl (.tmp 13) (.tmp 14) rfl g 64 N N k rfl rfl w ST0.out HK.out HN2.out ?_)
  intro w2 st2
  have hlen : (ls k ++ List.replicate (N - (ls k).length) (0 : UInt8)).length = N := by have := HK.out; have := HLK.out; have := HN2.out; simp; omega
  generalize ls k ++ List.replicate (N - (ls k).length) (0 : UInt8) = L at st2 hlen HMK
  have HLEN := Lib.hid hlen
  have st3 : ESt g w (mixl L (fun _ => b) 0) w2 := by rw [mixl_zero]; exact st2
  clear st2 hlen ST0
  go_wp2_with fail
  go_loopw [18] (fun i wr => ∃ j : Nat, j ≤ 64 ∧ i = .int .i64 j ∧ ESt g w (mixl L (fun _ => b) j) wr) (fun i _ => 64 - (intOf i).toNat)
  case atStart => exact ⟨0, by omega, rfl, st3⟩
  case round =>
    obtain ⟨j, hj, rfl, st4⟩ := hrel
    clear st3
    by_cases hjN : j < 64
    · have ji : (j : Int) < 64 := by omega
      have jn : (0 : Int) ≤ j := Int.natCast_nonneg j
      have hlt : j < L.length := by have := HLEN.out; have := HN2.out; omega
      have hlt2 : j < (mixl L (fun _ => b) j).length := by rw [length_mixl]; exact hlt
      have c1 := st4.byte j hlt2
      have f1 := frozen_of_row _ g j _ _ st4.ro
      rw [mixl_getD _ _ _ hlt] at c1
      have HST := Lib.hid (mixl_step L (fun _ => b) j hlt)
      generalize L.getD j 0 = x at c1 HST
      have hxor : bits .xor .u8 (x.toNat : Int) (b.toNat : Int) = (((x ^^^ b).toNat : Nat) : Int) := by rw [u8_xor_nat _ _ x.toNat_lt b.toNat_lt, UInt8.toNat_xor]
      have H4 := Lib.hid st4
      clear hlt hlt2 st4
      generalize x ^^^ b = y at HST hxor
      go_wp2_with fail
      have st5 : ESt g w (mixl L (fun _ => b) (j + 1)) (wr.setCell ⟨g, j, none⟩ (.int .u8 (y.toNat : Int))) := by
        have := H4.out.put j y
        rw [HST.out] at this
        exact this
      generalize World.setCell _ _ _ = wn at st5 ⊢
      go_wp2_with fail
      go_roundw
      case rel => exact ⟨j + 1, by omega, by go_num, st5⟩
      case measure => simp [intOf]; omega
    · have ji : ¬ ((j : Int) < 64) := by omega
      have hj64 : j = 64 := by omega
      rw [hj64] at st4
      have hown := est_owns st4 64 N HN2.out (by rw [length_mixl]; exact HLEN.out) (by have := HN.out; omega)
      rw [HMK.out] at hown
      have HOWN := Lib.hid hown
      have HB4 := Lib.hid st4.bel
      have HGE := Lib.hid st4.ge
      have HGL := Lib.hid (Array.getElem?_eq_some_iff.1 st4.ro).1
      have HBB := Lib.hid (show 64 + s.size ≤ 1000000 by have := HS.out; omega)
      clear hown st4 hj64 hjN
      go_wp2_with (with_reducible refine wpList_append_str rfl (.tmp 29) (.tmp 30) rfl w.heap.size (.slice (some ⟨g, 0, none⟩) 64 N) 64 (mkL (ls k) b) rfl HOWN.out s rfl HBB.out HB4.out.size ?_)
      intro v' w5 h1 h2
      have HB5 := Lib.hid (HB4.out.grown h2 HB4.out.size (fun m hm => (HOWN.out.lt m hm).1))
      obtain ⟨g', cap', rfl, _⟩ := h1.form (by omega)
      have hcv := conv_out (mkL (ls k) b ++ ls s) (64 + s.size) (by rw [← size_bs]; exact size_maskB k b s) h1
      clear h1 h2 HOWN HB4
      go_wp2_with fail
      go_ret
      exact ⟨rfl, HB5.out⟩
end Go.Proofs.YtkbfflnjbafamaaDoor
