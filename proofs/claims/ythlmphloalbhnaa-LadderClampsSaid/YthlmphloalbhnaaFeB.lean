/-
  fe.Bytes: the walk.
-/
import Derived.Test.YthlmphloalbhnaaFeS
namespace MS
open Go Go.RowKit
/-- 32 bytes, the lowest first. -/
def le32 (v : Nat) : List UInt8 := (List.range 32).map fun i => UInt8.ofNat (v / 2 ^ (8 * i) % 256)
theorem length_le32 (v : Nat) : (le32 v).length = 32 := by simp [le32]
theorem le32_inj {u v : Nat} (hu : u < 2 ^ 256) (hv : v < 2 ^ 256) (h : le32 u = le32 v) : u = v := by
  have hd : ∀ i, i < 32 → u / 2 ^ (8 * i) % 256 = v / 2 ^ (8 * i) % 256 := by
    intro i hi
    have h1 : (le32 u)[i]? = (le32 v)[i]? := by rw [h]
    simp only [le32, List.getElem?_map, List.getElem?_range hi, Option.map_some, Option.some.injEq] at h1
    have h2 := congrArg UInt8.toNat h1
    simpa using h2
  have key : ∀ k, k ≤ 32 → u % 2 ^ (8 * k) = v % 2 ^ (8 * k) := by
    intro k
    induction k with
    | zero => intro _; simp [Nat.mod_one]
    | succ k ih =>
      intro hk
      rw [Nat.mul_succ, Nat.pow_add, Nat.mod_mul, Nat.mod_mul, ih (by omega), show (2 : Nat) ^ 8 = 256 from rfl, hd k (by omega)]
  have := key 32 (Nat.le_refl _)
  rwa [Nat.mod_eq_of_lt hu, Nat.mod_eq_of_lt hv] at this
def wd (v j : Nat) : Nat := v / 2 ^ (64 * j) % 18446744073709551616
theorem wd_byte (v i : Nat) : wd v (i / 8) / 2 ^ (8 * (i % 8)) % 256 = v / 2 ^ (8 * i) % 256 := by
  unfold wd
  have h8 : i % 8 < 8 := Nat.mod_lt _ (by decide)
  have e : 8 * i = 64 * (i / 8) + 8 * (i % 8) := by omega
  rw [e, Nat.pow_add, ← Nat.div_div_eq_div_mul]
  generalize v / 2 ^ (64 * (i / 8)) = x
  have hc : i % 8 = 0 ∨ i % 8 = 1 ∨ i % 8 = 2 ∨ i % 8 = 3 ∨ i % 8 = 4 ∨ i % 8 = 5 ∨ i % 8 = 6 ∨ i % 8 = 7 := by omega
  rcases hc with h | h | h | h | h | h | h | h <;> rw [h] <;> omega
theorem N5.lst_words {x : N5} (h : x.lst) : wd x.v 0 = x.a + 2251799813685248 * (x.b % 8192) ∧ wd x.v 1 = x.b / 8192 + 274877906944 * (x.c % 67108864) ∧ wd x.v 2 = x.c / 67108864 + 33554432 * (x.d % 549755813888) ∧ wd x.v 3 = x.d / 549755813888 + 4096 * x.e := by
  obtain ⟨a, b, c, d, e⟩ := x
  obtain ⟨h1, h2, h3, h4, h5⟩ := h
  simp only at h1 h2 h3 h4 h5
  simp only [wd, N5.v]
  refine ⟨?_, ?_, ?_, ?_⟩ <;> omega
/-- A row of 32 bytes. -/
def bRow (f : Nat → Nat) : Array Value := ((List.range 32).map fun i => Value.int .u8 (f i : Nat)).toArray
theorem bRow_get (f : Nat → Nat) (j : Nat) (h : j < 32) : (bRow f)[j]? = some (.int .u8 (f j : Nat)) := by simp [bRow, h]
theorem bRow_set (f : Nat → Nat) (j v : Nat) : (bRow f).setIfInBounds j (.int .u8 (v : Nat)) = bRow (upd f j v) := by
  apply Array.ext
  · simp [bRow]
  · intro i h1 h2
    have h3 : i < 32 := by simpa [bRow] using h2
    rw [Array.getElem_setIfInBounds (by simpa [bRow] using h3)]
    by_cases e : j = i
    · subst e; simp [bRow, upd]
    · rw [if_neg e]; simp [bRow, upd, Ne.symm e]
end MS
namespace Go.Proofs.Ythlmphloalbhnaa
open Go.RowKit MS

/-- A number's bytes. -/
def feB (x : N5) : ByteArray := bs (le32 (x.v % Q'))
theorem or_add (k : Nat) (a b : Nat) (ha : a < 2 ^ k) : a ||| b * 2 ^ k = a + b * 2 ^ k := by
  rw [Nat.or_comm, ← Nat.shiftLeft_eq, ← Nat.shiftLeft_add_eq_or_of_lt ha, Nat.add_comm]

theorem or_words (k lo hi : Nat) (hlo : lo < 2 ^ k) (hs : lo + hi * 2 ^ k < 18446744073709551616) : bits .or .u64 (lo : Int) ((hi * 2 ^ k : Nat) : Int) = ((lo + hi * 2 ^ k : Nat) : Int) := by
  rw [u64_or_nat lo (hi * 2 ^ k) (by omega) (by omega), or_add k lo hi hlo]
def wdRow (v : Nat) : Array Value := #[.int .u64 (wd v 0 : Nat), .int .u64 (wd v 1 : Nat), .int .u64 (wd v 2 : Nat), .int .u64 (wd v 3 : Nat)]
theorem wdRow_get (v q : Nat) (h : q < 4) : (wdRow v)[q]? = some (.int .u64 (wd v q : Nat)) := by
  have : q = 0 ∨ q = 1 ∨ q = 2 ∨ q = 3 := by omega
  rcases this with rfl | rfl | rfl | rfl <;> rfl
def byF (v i : Nat) : Nat := v / 2 ^ (8 * i) % 256
theorem bRow_end (F G : Nat → Nat) : bRow (prog F G 32) = bRow G := by
  unfold bRow
  refine congrArg List.toArray (List.map_congr_left ?_)
  intro i hi
  rw [prog, if_pos (List.mem_range.1 hi)]
theorem conv_bRow (w : World) (g : Nat) (T : TypeId) (v : Nat) (hb : w.heap[g]? = some (.cells (bRow (byF v)) T (0, 0))) :
    (convert 54 9 (.slice (some ⟨g, 0, none⟩) 32 32)).run Try.prog w = .ok (.string (bs (le32 v))) w :=
  run_block_to_string w 54 9 5 Try.underlying54 Try.underlying5 Try.underlying9 g 32 32 T (0, 0) (le32 v) (cs := bRow (byF v)) hb (length_le32 v) (fun j hj => by
    have h32 : j < 32 := by rwa [length_le32] at hj
    rw [bRow_get _ _ h32]
    simp [le32, byF])
theorem bRow_zero : bRow (fun _ => 0) = #[.int .u8 0, .int .u8 0, .int .u8 0, .int .u8 0, .int .u8 0, .int .u8 0, .int .u8 0, .int .u8 0, .int .u8 0, .int .u8 0, .int .u8 0, .int .u8 0, .int .u8 0, .int .u8 0, .int .u8 0, .int .u8 0, .int .u8 0, .int .u8 0, .int .u8 0, .int .u8 0, .int .u8 0, .int .u8 0, .int .u8 0, .int .u8 0, .int .u8 0, .int .u8 0, .int .u8 0, .int .u8 0, .int .u8 0, .int .u8 0, .int .u8 0, .int .u8 0] := rfl
set_option maxRecDepth 100000 in
set_option maxHeartbeats 2000000 in
theorem febytes_any (x : N5) (hx : x.ok) (w : World) :
    Calls Try.prog 16 #[.agg (nvA x)] w fun e w' => e = .returned (.string (feB x)) ∧ Below w.heap.size w w' := by
  have NX := Lib.hid (fun w => least_any x hx w)
  have R0 := Lib.hid (show Rw w [(w.heap.size, nvA x, 24)] (w.alloc (.cells (nvA x) 24 (0, 0))) from (Rw.nil w).alloc (nvA x) 24)
  have IX := Lib.hid (infoV x)
  have IL := Lib.hid (infoV (least x))
  have OL := Lib.hid (one_nvA (least x))
  have LX := Lib.hid (show (nvA x).size = (nvA (least x)).size from rfl)
  have HW := Lib.hid (N5.lst_words (least_lst x))
  have HB := Lib.hid (least_lst x)
  have HR := Lib.hid (show feB x = bs (le32 (least x).v) by rw [feB, least_v hx])
  generalize nvA x = rx at *
  generalize least x = y at *
  generalize feB x = R at *
  clear hx
  go_enter Try.func16, Try.ntmps16
  go_upto_region 1 with fail
  generalize w.alloc (.cells rx 24 (0, 0)) = W at R0 ⊢
  have RA := Lib.hid (R0.out.row 0)
  go_wp2_with (with_reducible refine wpList_load_row rfl 24 (.tmp 1) rfl w.heap.size rfl 24 rx (0, 0) _ RA.out Try.underlying24 rfl IX.out ?_)
  refine (NX.out _).mono ?_
  rintro e w5 ⟨rfl, hb5⟩
  have R1 := Lib.hid (R0.out.on hb5)
  have RW1 := Lib.hid (R1.out.row 0)
  have R2 := Lib.hid (R1.out.store 0 (nvA y))
  clear hb5
  go_upto_region 2 with (with_reducible refine wpList_store_row rfl 24 (.tmp 1) (.tmp 7) rfl w.heap.size (nvA y) rfl rfl 24 rx RW1.out IL.out LX.out OL.out ?_)
  have r3 := R2.out
  simp only [List.set_cons_zero] at r3
  generalize World.setRow w5 _ (nvA y) = w6 at r3 ⊢
  generalize w.heap.size = ga at *
  obtain ⟨a, b, c, d, e⟩ := y
  obtain ⟨h1, h2, h3, h4, h5⟩ := HB.out
  obtain ⟨v0, v1, v2, v3⟩ := HW.out
  simp only at h1 h2 h3 h4 h5 v0 v1 v2 v3
  have c0 := r3.cell 0 0 (cs := nvA ⟨a, b, c, d, e⟩) (v := .int .u64 (a : Int)) rfl
  have c1 := r3.cell 0 1 (cs := nvA ⟨a, b, c, d, e⟩) (v := .int .u64 (b : Int)) rfl
  have c2 := r3.cell 0 2 (cs := nvA ⟨a, b, c, d, e⟩) (v := .int .u64 (c : Int)) rfl
  have c3 := r3.cell 0 3 (cs := nvA ⟨a, b, c, d, e⟩) (v := .int .u64 (d : Int)) rfl
  have c4 := r3.cell 0 4 (cs := nvA ⟨a, b, c, d, e⟩) (v := .int .u64 (e : Int)) rfl
  have e0 := or_words 51 a (b % 8192) (by omega) (by omega)
  have e1 := or_words 38 (b / 8192) (c % 67108864) (by omega) (by omega)
  have e2 := or_words 25 (c / 67108864) (d % 549755813888) (by omega) (by omega)
  have e3 := or_words 12 (d / 549755813888) e (by omega) (by omega)
  have f0 : IntKind.u64.wrap ((b : Int) * 2251799813685248) = ((b % 8192 * 2 ^ 51 : Nat) : Int) := by rw [IntKind.wrap_u64]; omega
  have f1 : IntKind.u64.wrap ((c : Int) * 274877906944) = ((c % 67108864 * 2 ^ 38 : Nat) : Int) := by rw [IntKind.wrap_u64]; omega
  have f2 : IntKind.u64.wrap ((d : Int) * 33554432) = ((d % 549755813888 * 2 ^ 25 : Nat) : Int) := by rw [IntKind.wrap_u64]; omega
  have f3 : (e : Int) * 4096 = ((e * 2 ^ 12 : Nat) : Int) := by omega
  have g1 : (b : Int) / 8192 = ((b / 8192 : Nat) : Int) := by omega
  have g2 : (c : Int) / 67108864 = ((c / 67108864 : Nat) : Int) := by omega
  have g3 : (d : Int) / 549755813888 = ((d / 549755813888 : Nat) : Int) := by omega
  rw [show a + b % 8192 * 2 ^ 51 = wd (N5.v ⟨a, b, c, d, e⟩) 0 by rw [v0]; omega] at e0
  rw [show b / 8192 + c % 67108864 * 2 ^ 38 = wd (N5.v ⟨a, b, c, d, e⟩) 1 by rw [v1]; omega] at e1
  rw [show c / 67108864 + d % 549755813888 * 2 ^ 25 = wd (N5.v ⟨a, b, c, d, e⟩) 2 by rw [v2]; omega] at e2
  rw [show d / 549755813888 + e * 2 ^ 12 = wd (N5.v ⟨a, b, c, d, e⟩) 3 by rw [v3]; omega] at e3
  rw [← f0] at e0
  rw [← f1, ← g1] at e1
  rw [← f2, ← g2] at e2
  rw [← f3, ← g3] at e3
  have E0 := Lib.hid e0
  have E1 := Lib.hid e1
  have E2 := Lib.hid e2
  have E3 := Lib.hid e3
  clear e0 e1 e2 e3 f0 f1 f2 f3 g1 g2 g3 v0 v1 v2 v3
  go_wp2_with fail
  rw [E0.out, E1.out, E2.out, E3.out]
  generalize N5.v ⟨a, b, c, d, e⟩ = v at *
  have r5 := (r3.alloc #[.int .u64 (wd v 0 : Nat), .int .u64 (wd v 1 : Nat), .int .u64 (wd v 2 : Nat), .int .u64 (wd v 3 : Nat)] 59).alloc (bRow (fun _ => 0)) 60
  rw [World.size_alloc, bRow_zero] at r5
  generalize (w6.alloc (.cells #[.int .u64 (wd v 0 : Nat), .int .u64 (wd v 1 : Nat), .int .u64 (wd v 2 : Nat), .int .u64 (wd v 3 : Nat)] 59 (0, 0))).alloc (.cells #[.int .u8 0, .int .u8 0, .int .u8 0, .int .u8 0, .int .u8 0, .int .u8 0, .int .u8 0, .int .u8 0, .int .u8 0, .int .u8 0, .int .u8 0, .int .u8 0, .int .u8 0, .int .u8 0, .int .u8 0, .int .u8 0, .int .u8 0, .int .u8 0, .int .u8 0, .int .u8 0, .int .u8 0, .int .u8 0, .int .u8 0, .int .u8 0, .int .u8 0, .int .u8 0, .int .u8 0, .int .u8 0, .int .u8 0, .int .u8 0, .int .u8 0, .int .u8 0] 60 (0, 0)) = w7 at r5 ⊢
  rw [← bRow_zero] at r5
  generalize w6.heap.size + 1 = go at *
  generalize w6.heap.size = gw at *
  have R5 := Lib.hid (show Rw w [(gw, wdRow v, 59), (go, bRow (fun _ => 0), 60)] w7 from r5.drop)
  clear r3 r5 c0 c1 c2 c3 c4 h1 h2 h3 h4 h5 R0 R1 R2 RA RW1 NX IX IL OL LX HW HB E0 E1 E2 E3
  go_loopw [36] (fun c wr => ∃ j : Nat, j ≤ 32 ∧ c = .int .i64 j ∧ Rw w [(gw, wdRow v, 59), (go, bRow (prog (fun _ => 0) (byF v) j), 60)] wr) (fun c _ => 32 - (intOf c).toNat)
  case atStart => exact ⟨0, by omega, rfl, by rw [prog_zero]; exact R5.out⟩
  case round =>
    obtain ⟨j, hj, rfl, hr⟩ := hrel
    have R6 := Lib.hid hr
    clear hr R5
    by_cases hlt : j < 32
    · have j1 : (j : Int) < 32 := by omega
      have j0 : (0 : Int) ≤ j := by omega
      have HLT := Lib.hid hlt
      obtain ⟨q, hq⟩ : ∃ q, j / 8 = q := ⟨_, rfl⟩
      obtain ⟨r, hr⟩ : ∃ r, j % 8 = r := ⟨_, rfl⟩
      have q4 : q < 4 := by omega
      have r8 : r = 0 ∨ r = 1 ∨ r = 2 ∨ r = 3 ∨ r = 4 ∨ r = 5 ∨ r = 6 ∨ r = 7 := by omega
      have qj : (j : Int) / 8 = (q : Int) := by omega
      have rj : (j : Int) % 8 = (r : Int) := by omega
      have qn : (0 : Int) ≤ q := by omega
      have qi : (q : Int) < 4 := by omega
      have cw := R6.out.cell 0 q (wdRow_get v q q4)
      have co := R6.out.cell 1 j (bRow_get _ j hlt)
      have fo := R6.out.free 1 j
      have put := R6.out.put 1 j (.int .u8 (byF v j : Nat))
      rw [bRow_set, prog_set] at put
      have PUT := Lib.hid put
      have wb := wd_byte v j
      rw [hq, hr, show v / 2 ^ (8 * j) % 256 = byF v j from rfl] at wb
      generalize wd v q = W0 at cw wb
      generalize byF v j = B0 at PUT wb put
      clear put hlt hj hq hr q4
      rcases r8 with rfl | rfl | rfl | rfl | rfl | rfl | rfl | rfl
      · have rk : (j : Int) % 8 = 0 := rj
        have vb : (W0 : Int) % 256 = (B0 : Int) := by rw [show (2 : Nat) ^ (8 * 0) = 1 from rfl] at wb; omega
        clear rj wb
        go_wp2_with fail
        go_roundw
        case rel => exact ⟨j + 1, HLT.out, by go_num, PUT.out⟩
        case measure => simp [intOf]; omega
      · have rk : (j : Int) % 8 = 1 := rj
        have vb : (W0 : Int) / 256 % 256 = (B0 : Int) := by rw [show (2 : Nat) ^ (8 * 1) = 256 from rfl] at wb; omega
        clear rj wb
        go_wp2_with fail
        go_roundw
        case rel => exact ⟨j + 1, HLT.out, by go_num, PUT.out⟩
        case measure => simp [intOf]; omega
      · have rk : (j : Int) % 8 = 2 := rj
        have vb : (W0 : Int) / 65536 % 256 = (B0 : Int) := by rw [show (2 : Nat) ^ (8 * 2) = 65536 from rfl] at wb; omega
        clear rj wb
        go_wp2_with fail
        go_roundw
        case rel => exact ⟨j + 1, HLT.out, by go_num, PUT.out⟩
        case measure => simp [intOf]; omega
      · have rk : (j : Int) % 8 = 3 := rj
        have vb : (W0 : Int) / 16777216 % 256 = (B0 : Int) := by rw [show (2 : Nat) ^ (8 * 3) = 16777216 from rfl] at wb; omega
        clear rj wb
        go_wp2_with fail
        go_roundw
        case rel => exact ⟨j + 1, HLT.out, by go_num, PUT.out⟩
        case measure => simp [intOf]; omega
      · have rk : (j : Int) % 8 = 4 := rj
        have vb : (W0 : Int) / 4294967296 % 256 = (B0 : Int) := by rw [show (2 : Nat) ^ (8 * 4) = 4294967296 from rfl] at wb; omega
        clear rj wb
        go_wp2_with fail
        go_roundw
        case rel => exact ⟨j + 1, HLT.out, by go_num, PUT.out⟩
        case measure => simp [intOf]; omega
      · have rk : (j : Int) % 8 = 5 := rj
        have vb : (W0 : Int) / 1099511627776 % 256 = (B0 : Int) := by rw [show (2 : Nat) ^ (8 * 5) = 1099511627776 from rfl] at wb; omega
        clear rj wb
        go_wp2_with fail
        go_roundw
        case rel => exact ⟨j + 1, HLT.out, by go_num, PUT.out⟩
        case measure => simp [intOf]; omega
      · have rk : (j : Int) % 8 = 6 := rj
        have vb : (W0 : Int) / 281474976710656 % 256 = (B0 : Int) := by rw [show (2 : Nat) ^ (8 * 6) = 281474976710656 from rfl] at wb; omega
        clear rj wb
        go_wp2_with fail
        go_roundw
        case rel => exact ⟨j + 1, HLT.out, by go_num, PUT.out⟩
        case measure => simp [intOf]; omega
      · have rk : (j : Int) % 8 = 7 := rj
        have vb : (W0 : Int) / 72057594037927936 % 256 = (B0 : Int) := by rw [show (2 : Nat) ^ (8 * 7) = 72057594037927936 from rfl] at wb; omega
        clear rj wb
        go_wp2_with fail
        go_roundw
        case rel => exact ⟨j + 1, HLT.out, by go_num, PUT.out⟩
        case measure => simp [intOf]; omega
    · have j1 : ¬ ((j : Int) < 32) := by omega
      have hj32 : j = 32 := by omega
      have r7 := R6.out
      rw [hj32, bRow_end] at r7
      have hcv := conv_bRow wr go 60 v (r7.row 1)
      rw [← HR.out] at hcv
      have HBB := Lib.hid r7.bel
      clear r7 hj32 hlt hj R6
      go_wp2_with fail
      go_ret
      exact ⟨rfl, HBB.out⟩
end Go.Proofs.Ythlmphloalbhnaa
