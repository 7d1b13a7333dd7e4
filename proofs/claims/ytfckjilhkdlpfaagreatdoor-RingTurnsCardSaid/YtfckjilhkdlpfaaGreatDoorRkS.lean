/-
  Accounts as rows of cells; regions of calls that are drawn; what a row and a slot hand back.
-/
import Derived.Test.YtfckjilhkdlpfaaGreatDoorRkA
namespace MS
open Go Go.RowKit
/-- A row that stood before the call. -/
theorem Rw.old {w0 w : World} {l : List Blk} (R : Rw w0 l w) {g T : Nat} {cs : Array Value} (h : w0.heap[g]? = some (.cells cs T (0, 0))) : w.heap[g]? = some (.cells cs T (0, 0)) :=
  (R.bel.block g (Array.getElem?_eq_some_iff.1 h).1).trans h
/-- A row that a call has made. -/
theorem Rw.join {w0 w w' : World} {l : List Blk} (R : Rw w0 l w) (hb : Below w.heap.size w w') {g T : Nat} {cs : Array Value} (hg : w.heap.size ≤ g) (h : w'.heap[g]? = some (.cells cs T (0, 0))) : Rw w0 (l ++ [(g, cs, T)]) w' := by
  have R' := R.on hb
  refine ⟨?_, ?_, ?_, R'.bel⟩
  · rw [List.map_append, List.nodup_append]
    refine ⟨R.nd, by simp, ?_⟩
    intro a ha b hb
    obtain ⟨r, hr, rfl⟩ := List.mem_map.1 ha
    simp only [List.map_cons, List.map_nil, List.mem_singleton] at hb
    have := R.lt r hr
    omega
  · intro r hr
    rcases List.mem_append.1 hr with h1 | h1
    · exact R'.ge r h1
    · rw [List.mem_singleton.1 h1]; have := R.bel.size; simp only; omega
  · intro r hr
    rcases List.mem_append.1 hr with h1 | h1
    · exact R'.rows r h1
    · rw [List.mem_singleton.1 h1]; exact h
end MS
namespace Go.Proofs.YtfckjilhkdlpfaaGreatDoor
open Go.RowKit MS

/-- The call's own first block, in a later world. -/
theorem own1 {w v : World} {X : Obj} (K : Below (w.alloc X).heap.size (w.alloc X) v) :
    (∀ o, v.cell? ⟨w.heap.size, o, none⟩ = (w.alloc X).cell? ⟨w.heap.size, o, none⟩) ∧ (∀ o, v.frozen? ⟨w.heap.size, o, none⟩ = (w.alloc X).frozen? ⟨w.heap.size, o, none⟩) ∧ w.heap.size < v.heap.size := by
  have hs : (w.alloc X).heap.size = w.heap.size + 1 := by simp
  have h := K.size
  rw [hs] at h
  exact ⟨fun o => K.cell (p := ⟨w.heap.size, o, none⟩) (by rw [hs]; exact Nat.lt_succ_self _), fun o => K.frozen (p := ⟨w.heap.size, o, none⟩) (by rw [hs]; exact Nat.lt_succ_self _), h⟩
/-- An account's cells, and those of what is drawn, as rows. -/
def accA (user salt : ByteArray) (rounds epoch : Int) (pub nonce wrapped old : ByteArray) : Array Value := #[.string user, .string salt, .int .i64 rounds, .int .i64 epoch, .string pub, .string nonce, .string wrapped, .string old]
def freA (salt nonce priv : ByteArray) (rounds : Int) : Array Value := #[.string salt, .string nonce, .string priv, .int .i64 rounds]
theorem rwAF (w : World) (user salt : ByteArray) (rounds epoch : Int) (pub nonce wrapped old fs fn fp : ByteArray) (fr : Int) (TA TF TB : TypeId) :
    Rw w [(w.heap.size, accA user salt rounds epoch pub nonce wrapped old, TA), (w.heap.size + 1, freA fs fn fp fr, TF), (w.heap.size + 1 + 1, accA ⟨#[]⟩ ⟨#[]⟩ 0 0 ⟨#[]⟩ ⟨#[]⟩ ⟨#[]⟩ ⟨#[]⟩, TB)]
      (((w.alloc (.cells #[.string user, .string salt, .int .i64 rounds, .int .i64 epoch, .string pub, .string nonce, .string wrapped, .string old] TA (0, 0))).alloc (.cells #[.string fs, .string fn, .string fp, .int .i64 fr] TF (0, 0))).alloc (.cells #[.string ⟨#[]⟩, .string ⟨#[]⟩, .int .i64 0, .int .i64 0, .string ⟨#[]⟩, .string ⟨#[]⟩, .string ⟨#[]⟩, .string ⟨#[]⟩] TB (0, 0))) := by
  have h := (((Rw.nil w).alloc (accA user salt rounds epoch pub nonce wrapped old) TA).alloc (freA fs fn fp fr) TF).alloc (accA ⟨#[]⟩ ⟨#[]⟩ 0 0 ⟨#[]⟩ ⟨#[]⟩ ⟨#[]⟩ ⟨#[]⟩) TB
  simp only [World.size_alloc] at h
  exact h

theorem acc_put4 {w0 W : World} {l : List Blk} {ga TA : Nat} {user salt : ByteArray} {rounds epoch : Int} {pub nonce wrapped old : ByteArray} (R : Rw w0 ((ga, accA user salt rounds epoch pub nonce wrapped old, TA) :: l) W) (s n : ByteArray) (r : Int) :
    Rw w0 ((ga, accA user s r epoch pub n wrapped ⟨#[]⟩, TA) :: l) ((((W.setCell ⟨ga, 1, none⟩ (.string s)).setCell ⟨ga, 5, none⟩ (.string n)).setCell ⟨ga, 2, none⟩ (.int .i64 r)).setCell ⟨ga, 7, none⟩ (.string ⟨#[]⟩)) := by
  have h1 := R.put 0 1 (.string s)
  have h2 := h1.put 0 5 (.string n)
  have h3 := h2.put 0 2 (.int .i64 r)
  have h4 := h3.put 0 7 (.string ⟨#[]⟩)
  exact h4
theorem acc_put6 {w0 W : World} {l : List Blk} {ga TA : Nat} {user salt : ByteArray} {rounds epoch : Int} {pub nonce wrapped old : ByteArray} (R : Rw w0 ((ga, accA user salt rounds epoch pub nonce wrapped old, TA) :: l) W) (z : ByteArray) :
    Rw w0 ((ga, accA user salt rounds epoch pub nonce z old, TA) :: l) (W.setCell ⟨ga, 6, none⟩ (.string z)) := by
  have h1 := R.put 0 6 (.string z)
  exact h1
section
variable {P : Program}
theorem results_row_slot {fn : Func} {p q : Tmp} {ty : TypeId} (h : fn.results = #[.cell p ty, .tmp q]) (tmps : Array Value) (w : World) (g : Nat) (t : TypeId) (cs : Array Value) (fr : Nat × Nat) (d : TypeDesc) (v : Value)
    (hp : tmps.getD p undef = .pointer (some ⟨g, 0, none⟩)) (hq : tmps.getD q undef = v) (hg : w.heap[g]? = some (.cells cs t fr))
    (hu : P.underlying ty = some d) (hd : (match d with | .struct _ | .array _ _ => true | _ => false) = true) (hi : (P.info? ty).map (·.size) = some cs.size) :
    (results fn tmps).run P w = .ok (.tuple #[.agg cs, v]) w := by
  have hp' : tmps[p]?.getD undef = .pointer (some ⟨g, 0, none⟩) := by simpa using hp
  have hq' : tmps[q]?.getD undef = v := by simpa using hq
  simp [results, h, hp', hq', asAddr, run_loadVar_row w g t ty cs fr d hg hu hd hi]
end
theorem infoAcc (user salt : ByteArray) (rounds epoch : Int) (pub nonce wrapped old : ByteArray) : (Tryz.prog.info? 23).map (·.size) = some (accA user salt rounds epoch pub nonce wrapped old).size := by
  rw [show (accA user salt rounds epoch pub nonce wrapped old).size = 8 from rfl]; kernel_rfl
theorem one_accA (user salt : ByteArray) (rounds epoch : Int) (pub nonce wrapped old : ByteArray) : (accA user salt rounds epoch pub nonce wrapped old).all (·.oneCell') = true := by simp [accA, Value.oneCell']

theorem acc_put7 {w0 W : World} {l : List Blk} {ga TA : Nat} {user salt : ByteArray} {rounds epoch : Int} {pub nonce wrapped old : ByteArray} (R : Rw w0 ((ga, accA user salt rounds epoch pub nonce wrapped old, TA) :: l) W) (z : ByteArray) :
    Rw w0 ((ga, accA user salt rounds epoch pub nonce wrapped z, TA) :: l) (W.setCell ⟨ga, 7, none⟩ (.string z)) := by
  have h1 := R.put 0 7 (.string z)
  exact h1
theorem acc_cells {w0 w : World} {g T : Nat} {l : List Blk} {user salt : ByteArray} {rounds epoch : Int} {pub nonce wrapped old : ByteArray} (R : Rw w0 ((g, accA user salt rounds epoch pub nonce wrapped old, T) :: l) w) :
    w.cell? ⟨g, 0, none⟩ = some (.string user) ∧ w.cell? ⟨g, 1, none⟩ = some (.string salt) ∧ w.cell? ⟨g, 2, none⟩ = some (.int .i64 rounds) ∧ w.cell? ⟨g, 3, none⟩ = some (.int .i64 epoch) ∧
    w.cell? ⟨g, 4, none⟩ = some (.string pub) ∧ w.cell? ⟨g, 5, none⟩ = some (.string nonce) ∧ w.cell? ⟨g, 6, none⟩ = some (.string wrapped) ∧ w.cell? ⟨g, 7, none⟩ = some (.string old) :=
  ⟨R.cell 0 0 rfl, R.cell 0 1 rfl, R.cell 0 2 rfl, R.cell 0 3 rfl, R.cell 0 4 rfl, R.cell 0 5 rfl, R.cell 0 6 rfl, R.cell 0 7 rfl⟩
theorem fre_cells {w0 w : World} {g T : Nat} {l : List Blk} {fs fn fp : ByteArray} {fr : Int} (R : Rw w0 l w) (i : Nat) (hi : l[i]? = some (g, freA fs fn fp fr, T)) :
    w.cell? ⟨g, 0, none⟩ = some (.string fs) ∧ w.cell? ⟨g, 1, none⟩ = some (.string fn) ∧ w.cell? ⟨g, 2, none⟩ = some (.string fp) ∧ w.cell? ⟨g, 3, none⟩ = some (.int .i64 fr) :=
  ⟨R.cell i 0 rfl hi, R.cell i 1 rfl hi, R.cell i 2 rfl hi, R.cell i 3 rfl hi⟩
theorem wpList_load_row_g {P : Program} {ops : Array Oper} {rest : List Oper} {o : Oper} {a : Act} {w : World} {Q : Exit → Act → World → Prop} (hw : Region.wanted o (yielded ops a.tmps) = true) (ty : TypeId) (x : Operand) (ho : o.op = .load ty x)
    (g : Nat) (hx : a.eval x = .pointer (some ⟨g, 0, none⟩)) (t : TypeId) (cs : Array Value) (fr : Nat × Nat) (d : TypeDesc) (hg : w.heap[g]? = some (.cells cs t fr))
    (hu : P.underlying ty = some d) (hd : (match d with | .struct _ | .array _ _ => true | _ => false) = true) (hi : (P.info? ty).map (·.size) = some cs.size)
    (h : wpList P ops Q rest (a.put o.dst (.agg cs)) w) : wpList P ops Q (o :: rest) a w :=
  BigFrame.wpList_want hw fun _ hK => wp_load_row ty x ho g hx t cs fr d hg hu hd hi (hK _ _ h)
theorem infoFre (fs fn fp : ByteArray) (fr : Int) : (Tryz.prog.info? 25).map (·.size) = some (freA fs fn fp fr).size := by
  rw [show (freA fs fn fp fr).size = 4 from rfl]; kernel_rfl
theorem rwAcc (w : World) (user salt : ByteArray) (rounds epoch : Int) (pub nonce wrapped old : ByteArray) (T : TypeId) : Rw w [(w.heap.size, accA user salt rounds epoch pub nonce wrapped old, T)] (w.alloc (.cells #[.string user, .string salt, .int .i64 rounds, .int .i64 epoch, .string pub, .string nonce, .string wrapped, .string old] T (0, 0))) := by
  have h := (Rw.nil w).alloc (accA user salt rounds epoch pub nonce wrapped old) T
  exact h
end Go.Proofs.YtfckjilhkdlpfaaGreatDoor
