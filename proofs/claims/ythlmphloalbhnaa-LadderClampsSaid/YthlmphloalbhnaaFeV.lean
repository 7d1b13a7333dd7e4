/-
  fe.Invert: the walk.
-/
import Derived.Test.YthlmphloalbhnaaFeY
import Derived.Test.YthlmphloalbhnaaMakes
import Derived.Test.YthlmphloalbhnaaPowP
namespace Go.Proofs.Ythlmphloalbhnaa
open Go.RowKit MS

theorem rw_add {w0 w : World} {l : List Blk} (h : Rw w0 l w) {g : Nat} {cs : Array Value} {T : TypeId} (hne : ∀ r ∈ l, r.1 ≠ g) (hg : w0.heap.size ≤ g) (hr : w.heap[g]? = some (.cells cs T (0, 0))) : Rw w0 (l ++ [(g, cs, T)]) w := by
  refine ⟨?_, ?_, ?_, h.bel⟩
  · rw [List.map_append, List.nodup_append]
    refine ⟨h.nd, by simp, ?_⟩
    intro a ha b hb
    obtain ⟨r, hr, rfl⟩ := List.mem_map.1 ha
    simp only [List.map_cons, List.map_nil, List.mem_singleton] at hb
    rw [hb]
    exact hne r hr
  · intro r hr
    rcases List.mem_append.1 hr with h1 | h1
    · exact h.ge r h1
    · rw [List.mem_singleton.1 h1]; exact hg
  · intro r hr'
    rcases List.mem_append.1 hr' with h1 | h1
    · exact h.rows r h1
    · rw [List.mem_singleton.1 h1]; exact hr
/-- A variable made in a region that draws. -/
theorem rw_made {w0 w w' : World} {l : List Blk} (h : Rw w0 l w) {g : Nat} {cs : Array Value} {T : TypeId} (hb : Below w.heap.size w w') (hg : w.heap.size ≤ g) (hr : w'.heap[g]? = some (.cells cs T (0, 0))) : Rw w0 (l ++ [(g, cs, T)]) w' :=
  rw_add (h.on hb) (fun r hr => by have := h.lt r hr; omega) (Nat.le_trans h.bel.size hg) hr

set_option maxRecDepth 1000000 in
set_option maxHeartbeats 4000000 in
theorem feinvert_any (a : N5) (ha : a.ok) (w : World) :
    Calls Try.prog 28 #[.agg (nvA a)] w fun e w' => e = .returned (.agg (nvA (invN a))) ∧ Below w.heap.size w w' := by
  obtain ⟨p2, ep2⟩ : ∃ x, x = mul a a := ⟨_, rfl⟩
  have hp2 : p2.ok := by rw [ep2]; exact mul_ok ha ha
  obtain ⟨sp9, esp9⟩ : ∃ x, x = sqs p2 2 := ⟨_, rfl⟩
  have hsp9 : sp9.ok := by rw [esp9]; exact sqs_ok hp2 2
  obtain ⟨p9, ep9⟩ : ∃ x, x = mul sp9 a := ⟨_, rfl⟩
  have hp9 : p9.ok := by rw [ep9]; exact mul_ok hsp9 ha
  obtain ⟨p11, ep11⟩ : ∃ x, x = mul p9 p2 := ⟨_, rfl⟩
  have hp11 : p11.ok := by rw [ep11]; exact mul_ok hp9 hp2
  obtain ⟨so5, eso5⟩ : ∃ x, x = sqs p11 1 := ⟨_, rfl⟩
  have hso5 : so5.ok := by rw [eso5]; exact sqs_ok hp11 1
  obtain ⟨o5, eo5⟩ : ∃ x, x = mul so5 p9 := ⟨_, rfl⟩
  have ho5 : o5.ok := by rw [eo5]; exact mul_ok hso5 hp9
  obtain ⟨so10, eso10⟩ : ∃ x, x = sqs o5 5 := ⟨_, rfl⟩
  have hso10 : so10.ok := by rw [eso10]; exact sqs_ok ho5 5
  obtain ⟨o10, eo10⟩ : ∃ x, x = mul so10 o5 := ⟨_, rfl⟩
  have ho10 : o10.ok := by rw [eo10]; exact mul_ok hso10 ho5
  obtain ⟨so20, eso20⟩ : ∃ x, x = sqs o10 10 := ⟨_, rfl⟩
  have hso20 : so20.ok := by rw [eso20]; exact sqs_ok ho10 10
  obtain ⟨o20, eo20⟩ : ∃ x, x = mul so20 o10 := ⟨_, rfl⟩
  have ho20 : o20.ok := by rw [eo20]; exact mul_ok hso20 ho10
  obtain ⟨so40, eso40⟩ : ∃ x, x = sqs o20 20 := ⟨_, rfl⟩
  have hso40 : so40.ok := by rw [eso40]; exact sqs_ok ho20 20
  obtain ⟨o40, eo40⟩ : ∃ x, x = mul so40 o20 := ⟨_, rfl⟩
  have ho40 : o40.ok := by rw [eo40]; exact mul_ok hso40 ho20
  obtain ⟨so50, eso50⟩ : ∃ x, x = sqs o40 10 := ⟨_, rfl⟩
  have hso50 : so50.ok := by rw [eso50]; exact sqs_ok ho40 10
  obtain ⟨o50, eo50⟩ : ∃ x, x = mul so50 o10 := ⟨_, rfl⟩
  have ho50 : o50.ok := by rw [eo50]; exact mul_ok hso50 ho10
  obtain ⟨so100, eso100⟩ : ∃ x, x = sqs o50 50 := ⟨_, rfl⟩
  have hso100 : so100.ok := by rw [eso100]; exact sqs_ok ho50 50
  obtain ⟨o100, eo100⟩ : ∃ x, x = mul so100 o50 := ⟨_, rfl⟩
  have ho100 : o100.ok := by rw [eo100]; exact mul_ok hso100 ho50
  obtain ⟨so200, eso200⟩ : ∃ x, x = sqs o100 100 := ⟨_, rfl⟩
  have hso200 : so200.ok := by rw [eso200]; exact sqs_ok ho100 100
  obtain ⟨o200, eo200⟩ : ∃ x, x = mul so200 o100 := ⟨_, rfl⟩
  have ho200 : o200.ok := by rw [eo200]; exact mul_ok hso200 ho100
  obtain ⟨so250, eso250⟩ : ∃ x, x = sqs o200 50 := ⟨_, rfl⟩
  have hso250 : so250.ok := by rw [eso250]; exact sqs_ok ho200 50
  obtain ⟨o250, eo250⟩ : ∃ x, x = mul so250 o50 := ⟨_, rfl⟩
  have ho250 : o250.ok := by rw [eo250]; exact mul_ok hso250 ho50
  obtain ⟨sR, esR⟩ : ∃ x, x = sqs o250 5 := ⟨_, rfl⟩
  have hsR : sR.ok := by rw [esR]; exact sqs_ok ho250 5
  obtain ⟨R, eR⟩ : ∃ x, x = mul sR p11 := ⟨_, rfl⟩
  have hR : R.ok := by rw [eR]; exact mul_ok hsR hp11
  have eR0 : invN a = R := by subst eR esR eo250 eso250 eo200 eso200 eo100 eso100 eo50 eso50 eo40 eso40 eo20 eso20 eo10 eso10 eo5 eso5 ep11 ep9 esp9 ep2; rfl
  rw [eR0]
  have Mp2 := Lib.hid (fun w => femul_any a a ha ha w)
  rw [← ep2] at Mp2
  have Sp9 := Lib.hid (fun w => squares_any p2 2 hp2 (by decide) w)
  rw [← esp9, show ((2 : Nat) : Int) = 2 from rfl] at Sp9
  have Mp9 := Lib.hid (fun w => femul_any sp9 a hsp9 ha w)
  rw [← ep9] at Mp9
  have Mp11 := Lib.hid (fun w => femul_any p9 p2 hp9 hp2 w)
  rw [← ep11] at Mp11
  have So5 := Lib.hid (fun w => squares_any p11 1 hp11 (by decide) w)
  rw [← eso5, show ((1 : Nat) : Int) = 1 from rfl] at So5
  have Mo5 := Lib.hid (fun w => femul_any so5 p9 hso5 hp9 w)
  rw [← eo5] at Mo5
  have So10 := Lib.hid (fun w => squares_any o5 5 ho5 (by decide) w)
  rw [← eso10, show ((5 : Nat) : Int) = 5 from rfl] at So10
  have Mo10 := Lib.hid (fun w => femul_any so10 o5 hso10 ho5 w)
  rw [← eo10] at Mo10
  have So20 := Lib.hid (fun w => squares_any o10 10 ho10 (by decide) w)
  rw [← eso20, show ((10 : Nat) : Int) = 10 from rfl] at So20
  have Mo20 := Lib.hid (fun w => femul_any so20 o10 hso20 ho10 w)
  rw [← eo20] at Mo20
  have So40 := Lib.hid (fun w => squares_any o20 20 ho20 (by decide) w)
  rw [← eso40, show ((20 : Nat) : Int) = 20 from rfl] at So40
  have Mo40 := Lib.hid (fun w => femul_any so40 o20 hso40 ho20 w)
  rw [← eo40] at Mo40
  have So50 := Lib.hid (fun w => squares_any o40 10 ho40 (by decide) w)
  rw [← eso50, show ((10 : Nat) : Int) = 10 from rfl] at So50
  have Mo50 := Lib.hid (fun w => femul_any so50 o10 hso50 ho10 w)
  rw [← eo50] at Mo50
  have So100 := Lib.hid (fun w => squares_any o50 50 ho50 (by decide) w)
  rw [← eso100, show ((50 : Nat) : Int) = 50 from rfl] at So100
  have Mo100 := Lib.hid (fun w => femul_any so100 o50 hso100 ho50 w)
  rw [← eo100] at Mo100
  have So200 := Lib.hid (fun w => squares_any o100 100 ho100 (by decide) w)
  rw [← eso200, show ((100 : Nat) : Int) = 100 from rfl] at So200
  have Mo200 := Lib.hid (fun w => femul_any so200 o100 hso200 ho100 w)
  rw [← eo200] at Mo200
  have So250 := Lib.hid (fun w => squares_any o200 50 ho200 (by decide) w)
  rw [← eso250, show ((50 : Nat) : Int) = 50 from rfl] at So250
  have Mo250 := Lib.hid (fun w => femul_any so250 o50 hso250 ho50 w)
  rw [← eo250] at Mo250
  have SR := Lib.hid (fun w => squares_any o250 5 ho250 (by decide) w)
  rw [← esR, show ((5 : Nat) : Int) = 5 from rfl] at SR
  have MR := Lib.hid (fun w => femul_any sR p11 hsR hp11 w)
  rw [← eR] at MR
  have Ia := Lib.hid (infoV a)
  have Oa := Lib.hid (one_nvA a)
  have La := Lib.hid (show (#[.int .u64 0, .int .u64 0, .int .u64 0, .int .u64 0, .int .u64 0] : Array Value).size = (nvA a).size from rfl)
  have Ip2 := Lib.hid (infoV p2)
  have Op2 := Lib.hid (one_nvA p2)
  have Lp2 := Lib.hid (show (#[.int .u64 0, .int .u64 0, .int .u64 0, .int .u64 0, .int .u64 0] : Array Value).size = (nvA p2).size from rfl)
  have Ip9 := Lib.hid (infoV p9)
  have Op9 := Lib.hid (one_nvA p9)
  have Lp9 := Lib.hid (show (#[.int .u64 0, .int .u64 0, .int .u64 0, .int .u64 0, .int .u64 0] : Array Value).size = (nvA p9).size from rfl)
  have Ip11 := Lib.hid (infoV p11)
  have Op11 := Lib.hid (one_nvA p11)
  have Lp11 := Lib.hid (show (#[.int .u64 0, .int .u64 0, .int .u64 0, .int .u64 0, .int .u64 0] : Array Value).size = (nvA p11).size from rfl)
  have Io5 := Lib.hid (infoV o5)
  have Oo5 := Lib.hid (one_nvA o5)
  have Lo5 := Lib.hid (show (#[.int .u64 0, .int .u64 0, .int .u64 0, .int .u64 0, .int .u64 0] : Array Value).size = (nvA o5).size from rfl)
  have Io10 := Lib.hid (infoV o10)
  have Oo10 := Lib.hid (one_nvA o10)
  have Lo10 := Lib.hid (show (#[.int .u64 0, .int .u64 0, .int .u64 0, .int .u64 0, .int .u64 0] : Array Value).size = (nvA o10).size from rfl)
  have Io20 := Lib.hid (infoV o20)
  have Oo20 := Lib.hid (one_nvA o20)
  have Lo20 := Lib.hid (show (#[.int .u64 0, .int .u64 0, .int .u64 0, .int .u64 0, .int .u64 0] : Array Value).size = (nvA o20).size from rfl)
  have Io40 := Lib.hid (infoV o40)
  have Oo40 := Lib.hid (one_nvA o40)
  have Lo40 := Lib.hid (show (#[.int .u64 0, .int .u64 0, .int .u64 0, .int .u64 0, .int .u64 0] : Array Value).size = (nvA o40).size from rfl)
  have Io50 := Lib.hid (infoV o50)
  have Oo50 := Lib.hid (one_nvA o50)
  have Lo50 := Lib.hid (show (#[.int .u64 0, .int .u64 0, .int .u64 0, .int .u64 0, .int .u64 0] : Array Value).size = (nvA o50).size from rfl)
  have Io100 := Lib.hid (infoV o100)
  have Oo100 := Lib.hid (one_nvA o100)
  have Lo100 := Lib.hid (show (#[.int .u64 0, .int .u64 0, .int .u64 0, .int .u64 0, .int .u64 0] : Array Value).size = (nvA o100).size from rfl)
  have Io200 := Lib.hid (infoV o200)
  have Oo200 := Lib.hid (one_nvA o200)
  have Lo200 := Lib.hid (show (#[.int .u64 0, .int .u64 0, .int .u64 0, .int .u64 0, .int .u64 0] : Array Value).size = (nvA o200).size from rfl)
  have Io250 := Lib.hid (infoV o250)
  have Oo250 := Lib.hid (one_nvA o250)
  have Lo250 := Lib.hid (show (#[.int .u64 0, .int .u64 0, .int .u64 0, .int .u64 0, .int .u64 0] : Array Value).size = (nvA o250).size from rfl)
  have IR := Lib.hid (infoV R)
  have OR := Lib.hid (one_nvA R)
  have LR := Lib.hid (show (#[.int .u64 0, .int .u64 0, .int .u64 0, .int .u64 0, .int .u64 0] : Array Value).size = (nvA R).size from rfl)
  have R0 := Lib.hid (show Rw w [(w.heap.size, nvA a, 24), (w.heap.size + 1, #[.int .u64 0, .int .u64 0, .int .u64 0, .int .u64 0, .int .u64 0], 24)] ((w.alloc (.cells (nvA a) 24 (0, 0))).alloc (.cells #[.int .u64 0, .int .u64 0, .int .u64 0, .int .u64 0, .int .u64 0] 24 (0, 0))) from rw2 w (nvA a) #[.int .u64 0, .int .u64 0, .int .u64 0, .int .u64 0, .int .u64 0])
  clear ep2 ep9 ep11 eo5 eo10 eo20 eo40 eo50 eo100 eo200 eo250 eR esp9 eso5 eso10 eso20 eso40 eso50 eso100 eso200 eso250 esR eR0
  generalize nvA R = rR at *
  generalize nvA sR = rsR at *
  generalize nvA o250 = ro250 at *
  generalize nvA so250 = rso250 at *
  generalize nvA o200 = ro200 at *
  generalize nvA so200 = rso200 at *
  generalize nvA o100 = ro100 at *
  generalize nvA so100 = rso100 at *
  generalize nvA o50 = ro50 at *
  generalize nvA so50 = rso50 at *
  generalize nvA o40 = ro40 at *
  generalize nvA so40 = rso40 at *
  generalize nvA o20 = ro20 at *
  generalize nvA so20 = rso20 at *
  generalize nvA o10 = ro10 at *
  generalize nvA so10 = rso10 at *
  generalize nvA o5 = ro5 at *
  generalize nvA so5 = rso5 at *
  generalize nvA p11 = rp11 at *
  generalize nvA p9 = rp9 at *
  generalize nvA sp9 = rsp9 at *
  generalize nvA p2 = rp2 at *
  generalize nvA a = ra at *
  clear hp2 hp9 hp11 ho5 ho10 ho20 ho40 ho50 ho100 ho200 ho250 hR hsp9 hso5 hso10 hso20 hso40 hso50 hso100 hso200 hso250 hsR ha
  go_enter Try.func28, Try.ntmps28
  go_upto_region 1 with fail
  generalize (w.alloc (.cells ra 24 (0, 0))).alloc (.cells #[.int .u64 0, .int .u64 0, .int .u64 0, .int .u64 0, .int .u64 0] 24 (0, 0)) = W0 at R0 ⊢
  generalize w.heap.size + 1 = gR at *
  generalize w.heap.size = ga at R0 ⊢
  have RX := Lib.hid (R0.out.row 0)
  have RY := Lib.hid (R0.out.row 0)
  go_wp2_with (first
    | (with_reducible refine wpList_load_row rfl 24 (.tmp 1) rfl ga rfl 24 ra (0, 0) _ RX.out Try.underlying24 rfl Ia.out ?_)
    | (with_reducible refine wpList_load_row rfl 24 (.tmp 1) rfl ga rfl 24 ra (0, 0) _ RY.out Try.underlying24 rfl Ia.out ?_))
  refine (Mp2.out _).mono ?_
  rintro e w1 ⟨rfl, hb⟩
  have RA := Lib.hid ((R0.out.on hb).alloc #[.int .u64 0, .int .u64 0, .int .u64 0, .int .u64 0, .int .u64 0] 24)
  have RB := Lib.hid (RA.out.store 2 rp2)
  have RC := Lib.hid (RA.out.row 2)
  clear hb RX RY R0
  go_upto_region 2 with (with_reducible refine wpList_store_row rfl 24 (.tmp 3) (.tmp 16) rfl w1.heap.size rp2 rfl rfl 24 #[.int .u64 0, .int .u64 0, .int .u64 0, .int .u64 0, .int .u64 0] RC.out Ip2.out Lp2.out Op2.out ?_)
  simp only [Act.put]
  clear RA RC
  have R1 := Lib.hid (show Rw w [(ga, ra, 24), (gR, #[.int .u64 0, .int .u64 0, .int .u64 0, .int .u64 0, .int .u64 0], 24), (w1.heap.size, rp2, 24)] _ from RB.out)
  clear RB
  generalize (w1.alloc (.cells #[.int .u64 0, .int .u64 0, .int .u64 0, .int .u64 0, .int .u64 0] 24 (0, 0))).setRow w1.heap.size rp2 = W1 at R1 ⊢
  generalize w1.heap.size = gp2 at R1 ⊢
  refine wp_region_makes 4 1 (fun _ => (4, .cells #[.int .u64 0, .int .u64 0, .int .u64 0, .int .u64 0, .int .u64 0] 24 (0, 0))) (by kernel_rfl) (by kernel_rfl) (by rfl) ?hmk ?h
  case hmk =>
    intro j h1 h2
    obtain rfl : j = 4 := by omega
    exact ⟨_, rfl, rfl, fun _ => rfl, fun _ _ => by go_simp⟩
  apply Exists.intro
  refine ⟨?_, ?_⟩
  · intro p hp
    have RP := Lib.hid (R1.out.on hp)
    simp only [List.take_succ_cons, List.take_zero]
    go_big_quiet_want
    refine quiet_load_row 24 (.tmp 3) (by rfl) gp2 (by rfl) 24 rp2 (0, 0) _ ?hC1 Try.underlying24 rfl Ip2.out ?_
    case hC1 => rintro w' ⟨q, rfl⟩; exact (RP.out.on q.2).row 2
    simp only [Act.put, List.setIfInBounds_toArray, List.set_cons_zero, List.set_cons_succ]
    go_big_quiet_on
    go_big_quiet_step (exact calls_below (Sp9.out _))
    go_big_quiet_want
    refine quiet_load_row 24 (.tmp 1) (by rfl) ga (by rfl) 24 ra (0, 0) _ ?hC2 Try.underlying24 rfl Ia.out ?_
    case hC2 => rintro w' ⟨q, rfl⟩; exact (RP.out.on q.2).row 0
    simp only [Act.put, List.setIfInBounds_toArray, List.set_cons_zero, List.set_cons_succ]
    go_big_quiet_on
    go_big_quiet_step (exact calls_below (Mp9.out _))
    exact wpQuiet_nil rfl
  intro gp9 hg _ w2 hb hr
  have RA := Lib.hid (rw_made R1.out hb hg (hr gp9 _ (updR_same _ _ _)))
  have RB := Lib.hid (RA.out.store 3 rp9)
  have RC := Lib.hid (RA.out.row 3)
  clear hb hg hr R1
  simp only [List.drop_succ_cons, List.drop_zero, Act.put, List.setIfInBounds_toArray, List.set_cons_zero, List.set_cons_succ]
  go_upto_region 3 with (with_reducible refine wpList_store_row rfl 24 (.tmp 4) (.tmp 20) rfl gp9 rp9 rfl rfl 24 #[.int .u64 0, .int .u64 0, .int .u64 0, .int .u64 0, .int .u64 0] RC.out Ip9.out Lp9.out Op9.out ?_)
  clear RA RC
  have R2 := Lib.hid (show Rw w [(ga, ra, 24), (gR, #[.int .u64 0, .int .u64 0, .int .u64 0, .int .u64 0, .int .u64 0], 24), (gp2, rp2, 24), (gp9, rp9, 24)] _ from RB.out)
  clear RB
  generalize w2.setRow gp9 rp9 = W2 at R2 ⊢
  have RX := Lib.hid (R2.out.row 3)
  have RY := Lib.hid (R2.out.row 2)
  go_wp2_with (first
    | (with_reducible refine wpList_load_row rfl 24 (.tmp 4) rfl gp9 rfl 24 rp9 (0, 0) _ RX.out Try.underlying24 rfl Ip9.out ?_)
    | (with_reducible refine wpList_load_row rfl 24 (.tmp 3) rfl gp2 rfl 24 rp2 (0, 0) _ RY.out Try.underlying24 rfl Ip2.out ?_))
  refine (Mp11.out _).mono ?_
  rintro e w3 ⟨rfl, hb⟩
  have RA := Lib.hid ((R2.out.on hb).alloc #[.int .u64 0, .int .u64 0, .int .u64 0, .int .u64 0, .int .u64 0] 24)
  have RB := Lib.hid (RA.out.store 4 rp11)
  have RC := Lib.hid (RA.out.row 4)
  clear hb RX RY R2
  go_upto_region 4 with (with_reducible refine wpList_store_row rfl 24 (.tmp 5) (.tmp 23) rfl w3.heap.size rp11 rfl rfl 24 #[.int .u64 0, .int .u64 0, .int .u64 0, .int .u64 0, .int .u64 0] RC.out Ip11.out Lp11.out Op11.out ?_)
  simp only [Act.put]
  clear RA RC
  have R3 := Lib.hid (show Rw w [(ga, ra, 24), (gR, #[.int .u64 0, .int .u64 0, .int .u64 0, .int .u64 0, .int .u64 0], 24), (gp2, rp2, 24), (gp9, rp9, 24), (w3.heap.size, rp11, 24)] _ from RB.out)
  clear RB
  generalize (w3.alloc (.cells #[.int .u64 0, .int .u64 0, .int .u64 0, .int .u64 0, .int .u64 0] 24 (0, 0))).setRow w3.heap.size rp11 = W3 at R3 ⊢
  generalize w3.heap.size = gp11 at R3 ⊢
  refine wp_region_makes 4 1 (fun _ => (6, .cells #[.int .u64 0, .int .u64 0, .int .u64 0, .int .u64 0, .int .u64 0] 24 (0, 0))) (by kernel_rfl) (by kernel_rfl) (by rfl) ?hmk ?h
  case hmk =>
    intro j h1 h2
    obtain rfl : j = 4 := by omega
    exact ⟨_, rfl, rfl, fun _ => rfl, fun _ _ => by go_simp⟩
  apply Exists.intro
  refine ⟨?_, ?_⟩
  · intro p hp
    have RP := Lib.hid (R3.out.on hp)
    simp only [List.take_succ_cons, List.take_zero]
    go_big_quiet_want
    refine quiet_load_row 24 (.tmp 5) (by rfl) gp11 (by rfl) 24 rp11 (0, 0) _ ?hC1 Try.underlying24 rfl Ip11.out ?_
    case hC1 => rintro w' ⟨q, rfl⟩; exact (RP.out.on q.2).row 4
    simp only [Act.put, List.setIfInBounds_toArray, List.set_cons_zero, List.set_cons_succ]
    go_big_quiet_on
    go_big_quiet_step (exact calls_below (So5.out _))
    go_big_quiet_want
    refine quiet_load_row 24 (.tmp 4) (by rfl) gp9 (by rfl) 24 rp9 (0, 0) _ ?hC2 Try.underlying24 rfl Ip9.out ?_
    case hC2 => rintro w' ⟨q, rfl⟩; exact (RP.out.on q.2).row 3
    simp only [Act.put, List.setIfInBounds_toArray, List.set_cons_zero, List.set_cons_succ]
    go_big_quiet_on
    go_big_quiet_step (exact calls_below (Mo5.out _))
    exact wpQuiet_nil rfl
  intro go5 hg _ w4 hb hr
  have RA := Lib.hid (rw_made R3.out hb hg (hr go5 _ (updR_same _ _ _)))
  have RB := Lib.hid (RA.out.store 5 ro5)
  have RC := Lib.hid (RA.out.row 5)
  clear hb hg hr R3
  simp only [List.drop_succ_cons, List.drop_zero, Act.put, List.setIfInBounds_toArray, List.set_cons_zero, List.set_cons_succ]
  go_upto_region 5 with (with_reducible refine wpList_store_row rfl 24 (.tmp 6) (.tmp 27) rfl go5 ro5 rfl rfl 24 #[.int .u64 0, .int .u64 0, .int .u64 0, .int .u64 0, .int .u64 0] RC.out Io5.out Lo5.out Oo5.out ?_)
  simp only [Act.put]
  clear RA RC
  have R4 := Lib.hid (show Rw w [(ga, ra, 24), (gR, #[.int .u64 0, .int .u64 0, .int .u64 0, .int .u64 0, .int .u64 0], 24), (gp2, rp2, 24), (gp9, rp9, 24), (gp11, rp11, 24), (go5, ro5, 24)] _ from RB.out)
  clear RB
  generalize w4.setRow go5 ro5 = W4 at R4 ⊢
  refine wp_region_makes 4 1 (fun _ => (7, .cells #[.int .u64 0, .int .u64 0, .int .u64 0, .int .u64 0, .int .u64 0] 24 (0, 0))) (by kernel_rfl) (by kernel_rfl) (by rfl) ?hmk ?h
  case hmk =>
    intro j h1 h2
    obtain rfl : j = 4 := by omega
    exact ⟨_, rfl, rfl, fun _ => rfl, fun _ _ => by go_simp⟩
  apply Exists.intro
  refine ⟨?_, ?_⟩
  · intro p hp
    have RP := Lib.hid (R4.out.on hp)
    simp only [List.take_succ_cons, List.take_zero]
    go_big_quiet_want
    refine quiet_load_row 24 (.tmp 6) (by rfl) go5 (by rfl) 24 ro5 (0, 0) _ ?hC1 Try.underlying24 rfl Io5.out ?_
    case hC1 => rintro w' ⟨q, rfl⟩; exact (RP.out.on q.2).row 5
    simp only [Act.put, List.setIfInBounds_toArray, List.set_cons_zero, List.set_cons_succ]
    go_big_quiet_on
    go_big_quiet_step (exact calls_below (So10.out _))
    go_big_quiet_want
    refine quiet_load_row 24 (.tmp 6) (by rfl) go5 (by rfl) 24 ro5 (0, 0) _ ?hC2 Try.underlying24 rfl Io5.out ?_
    case hC2 => rintro w' ⟨q, rfl⟩; exact (RP.out.on q.2).row 5
    simp only [Act.put, List.setIfInBounds_toArray, List.set_cons_zero, List.set_cons_succ]
    go_big_quiet_on
    go_big_quiet_step (exact calls_below (Mo10.out _))
    exact wpQuiet_nil rfl
  intro go10 hg _ w5 hb hr
  have RA := Lib.hid (rw_made R4.out hb hg (hr go10 _ (updR_same _ _ _)))
  have RB := Lib.hid (RA.out.store 6 ro10)
  have RC := Lib.hid (RA.out.row 6)
  clear hb hg hr R4
  simp only [List.drop_succ_cons, List.drop_zero, Act.put, List.setIfInBounds_toArray, List.set_cons_zero, List.set_cons_succ]
  go_upto_region 6 with (with_reducible refine wpList_store_row rfl 24 (.tmp 7) (.tmp 31) rfl go10 ro10 rfl rfl 24 #[.int .u64 0, .int .u64 0, .int .u64 0, .int .u64 0, .int .u64 0] RC.out Io10.out Lo10.out Oo10.out ?_)
  simp only [Act.put]
  clear RA RC
  have R5 := Lib.hid (show Rw w [(ga, ra, 24), (gR, #[.int .u64 0, .int .u64 0, .int .u64 0, .int .u64 0, .int .u64 0], 24), (gp2, rp2, 24), (gp9, rp9, 24), (gp11, rp11, 24), (go5, ro5, 24), (go10, ro10, 24)] _ from RB.out)
  clear RB
  generalize w5.setRow go10 ro10 = W5 at R5 ⊢
  refine wp_region_makes 4 1 (fun _ => (8, .cells #[.int .u64 0, .int .u64 0, .int .u64 0, .int .u64 0, .int .u64 0] 24 (0, 0))) (by kernel_rfl) (by kernel_rfl) (by rfl) ?hmk ?h
  case hmk =>
    intro j h1 h2
    obtain rfl : j = 4 := by omega
    exact ⟨_, rfl, rfl, fun _ => rfl, fun _ _ => by go_simp⟩
  apply Exists.intro
  refine ⟨?_, ?_⟩
  · intro p hp
    have RP := Lib.hid (R5.out.on hp)
    simp only [List.take_succ_cons, List.take_zero]
    go_big_quiet_want
    refine quiet_load_row 24 (.tmp 7) (by rfl) go10 (by rfl) 24 ro10 (0, 0) _ ?hC1 Try.underlying24 rfl Io10.out ?_
    case hC1 => rintro w' ⟨q, rfl⟩; exact (RP.out.on q.2).row 6
    simp only [Act.put, List.setIfInBounds_toArray, List.set_cons_zero, List.set_cons_succ]
    go_big_quiet_on
    go_big_quiet_step (exact calls_below (So20.out _))
    go_big_quiet_want
    refine quiet_load_row 24 (.tmp 7) (by rfl) go10 (by rfl) 24 ro10 (0, 0) _ ?hC2 Try.underlying24 rfl Io10.out ?_
    case hC2 => rintro w' ⟨q, rfl⟩; exact (RP.out.on q.2).row 6
    simp only [Act.put, List.setIfInBounds_toArray, List.set_cons_zero, List.set_cons_succ]
    go_big_quiet_on
    go_big_quiet_step (exact calls_below (Mo20.out _))
    exact wpQuiet_nil rfl
  intro go20 hg _ w6 hb hr
  have RA := Lib.hid (rw_made R5.out hb hg (hr go20 _ (updR_same _ _ _)))
  have RB := Lib.hid (RA.out.store 7 ro20)
  have RC := Lib.hid (RA.out.row 7)
  clear hb hg hr R5
  simp only [List.drop_succ_cons, List.drop_zero, Act.put, List.setIfInBounds_toArray, List.set_cons_zero, List.set_cons_succ]
  go_upto_region 7 with (with_reducible refine wpList_store_row rfl 24 (.tmp 8) (.tmp 35) rfl go20 ro20 rfl rfl 24 #[.int .u64 0, .int .u64 0, .int .u64 0, .int .u64 0, .int .u64 0] RC.out Io20.out Lo20.out Oo20.out ?_)
  simp only [Act.put]
  clear RA RC
  have R6 := Lib.hid (show Rw w [(ga, ra, 24), (gR, #[.int .u64 0, .int .u64 0, .int .u64 0, .int .u64 0, .int .u64 0], 24), (gp2, rp2, 24), (gp9, rp9, 24), (gp11, rp11, 24), (go5, ro5, 24), (go10, ro10, 24), (go20, ro20, 24)] _ from RB.out)
  clear RB
  generalize w6.setRow go20 ro20 = W6 at R6 ⊢
  refine wp_region_makes 4 1 (fun _ => (9, .cells #[.int .u64 0, .int .u64 0, .int .u64 0, .int .u64 0, .int .u64 0] 24 (0, 0))) (by kernel_rfl) (by kernel_rfl) (by rfl) ?hmk ?h
  case hmk =>
    intro j h1 h2
    obtain rfl : j = 4 := by omega
    exact ⟨_, rfl, rfl, fun _ => rfl, fun _ _ => by go_simp⟩
  apply Exists.intro
  refine ⟨?_, ?_⟩
  · intro p hp
    have RP := Lib.hid (R6.out.on hp)
    simp only [List.take_succ_cons, List.take_zero]
    go_big_quiet_want
    refine quiet_load_row 24 (.tmp 8) (by rfl) go20 (by rfl) 24 ro20 (0, 0) _ ?hC1 Try.underlying24 rfl Io20.out ?_
    case hC1 => rintro w' ⟨q, rfl⟩; exact (RP.out.on q.2).row 7
    simp only [Act.put, List.setIfInBounds_toArray, List.set_cons_zero, List.set_cons_succ]
    go_big_quiet_on
    go_big_quiet_step (exact calls_below (So40.out _))
    go_big_quiet_want
    refine quiet_load_row 24 (.tmp 8) (by rfl) go20 (by rfl) 24 ro20 (0, 0) _ ?hC2 Try.underlying24 rfl Io20.out ?_
    case hC2 => rintro w' ⟨q, rfl⟩; exact (RP.out.on q.2).row 7
    simp only [Act.put, List.setIfInBounds_toArray, List.set_cons_zero, List.set_cons_succ]
    go_big_quiet_on
    go_big_quiet_step (exact calls_below (Mo40.out _))
    exact wpQuiet_nil rfl
  intro go40 hg _ w7 hb hr
  have RA := Lib.hid (rw_made R6.out hb hg (hr go40 _ (updR_same _ _ _)))
  have RB := Lib.hid (RA.out.store 8 ro40)
  have RC := Lib.hid (RA.out.row 8)
  clear hb hg hr R6
  simp only [List.drop_succ_cons, List.drop_zero, Act.put, List.setIfInBounds_toArray, List.set_cons_zero, List.set_cons_succ]
  go_upto_region 8 with (with_reducible refine wpList_store_row rfl 24 (.tmp 9) (.tmp 39) rfl go40 ro40 rfl rfl 24 #[.int .u64 0, .int .u64 0, .int .u64 0, .int .u64 0, .int .u64 0] RC.out Io40.out Lo40.out Oo40.out ?_)
  simp only [Act.put]
  clear RA RC
  have R7 := Lib.hid (show Rw w [(ga, ra, 24), (gR, #[.int .u64 0, .int .u64 0, .int .u64 0, .int .u64 0, .int .u64 0], 24), (gp2, rp2, 24), (gp9, rp9, 24), (gp11, rp11, 24), (go5, ro5, 24), (go10, ro10, 24), (go20, ro20, 24), (go40, ro40, 24)] _ from RB.out)
  clear RB
  generalize w7.setRow go40 ro40 = W7 at R7 ⊢
  refine wp_region_makes 4 1 (fun _ => (10, .cells #[.int .u64 0, .int .u64 0, .int .u64 0, .int .u64 0, .int .u64 0] 24 (0, 0))) (by kernel_rfl) (by kernel_rfl) (by rfl) ?hmk ?h
  case hmk =>
    intro j h1 h2
    obtain rfl : j = 4 := by omega
    exact ⟨_, rfl, rfl, fun _ => rfl, fun _ _ => by go_simp⟩
  apply Exists.intro
  refine ⟨?_, ?_⟩
  · intro p hp
    have RP := Lib.hid (R7.out.on hp)
    simp only [List.take_succ_cons, List.take_zero]
    go_big_quiet_want
    refine quiet_load_row 24 (.tmp 9) (by rfl) go40 (by rfl) 24 ro40 (0, 0) _ ?hC1 Try.underlying24 rfl Io40.out ?_
    case hC1 => rintro w' ⟨q, rfl⟩; exact (RP.out.on q.2).row 8
    simp only [Act.put, List.setIfInBounds_toArray, List.set_cons_zero, List.set_cons_succ]
    go_big_quiet_on
    go_big_quiet_step (exact calls_below (So50.out _))
    go_big_quiet_want
    refine quiet_load_row 24 (.tmp 7) (by rfl) go10 (by rfl) 24 ro10 (0, 0) _ ?hC2 Try.underlying24 rfl Io10.out ?_
    case hC2 => rintro w' ⟨q, rfl⟩; exact (RP.out.on q.2).row 6
    simp only [Act.put, List.setIfInBounds_toArray, List.set_cons_zero, List.set_cons_succ]
    go_big_quiet_on
    go_big_quiet_step (exact calls_below (Mo50.out _))
    exact wpQuiet_nil rfl
  intro go50 hg _ w8 hb hr
  have RA := Lib.hid (rw_made R7.out hb hg (hr go50 _ (updR_same _ _ _)))
  have RB := Lib.hid (RA.out.store 9 ro50)
  have RC := Lib.hid (RA.out.row 9)
  clear hb hg hr R7
  simp only [List.drop_succ_cons, List.drop_zero, Act.put, List.setIfInBounds_toArray, List.set_cons_zero, List.set_cons_succ]
  go_upto_region 9 with (with_reducible refine wpList_store_row rfl 24 (.tmp 10) (.tmp 43) rfl go50 ro50 rfl rfl 24 #[.int .u64 0, .int .u64 0, .int .u64 0, .int .u64 0, .int .u64 0] RC.out Io50.out Lo50.out Oo50.out ?_)
  simp only [Act.put]
  clear RA RC
  have R8 := Lib.hid (show Rw w [(ga, ra, 24), (gR, #[.int .u64 0, .int .u64 0, .int .u64 0, .int .u64 0, .int .u64 0], 24), (gp2, rp2, 24), (gp9, rp9, 24), (gp11, rp11, 24), (go5, ro5, 24), (go10, ro10, 24), (go20, ro20, 24), (go40, ro40, 24), (go50, ro50, 24)] _ from RB.out)
  clear RB
  generalize w8.setRow go50 ro50 = W8 at R8 ⊢
  refine wp_region_makes 4 1 (fun _ => (11, .cells #[.int .u64 0, .int .u64 0, .int .u64 0, .int .u64 0, .int .u64 0] 24 (0, 0))) (by kernel_rfl) (by kernel_rfl) (by rfl) ?hmk ?h
  case hmk =>
    intro j h1 h2
    obtain rfl : j = 4 := by omega
    exact ⟨_, rfl, rfl, fun _ => rfl, fun _ _ => by go_simp⟩
  apply Exists.intro
  refine ⟨?_, ?_⟩
  · intro p hp
    have RP := Lib.hid (R8.out.on hp)
    simp only [List.take_succ_cons, List.take_zero]
    go_big_quiet_want
    refine quiet_load_row 24 (.tmp 10) (by rfl) go50 (by rfl) 24 ro50 (0, 0) _ ?hC1 Try.underlying24 rfl Io50.out ?_
    case hC1 => rintro w' ⟨q, rfl⟩; exact (RP.out.on q.2).row 9
    simp only [Act.put, List.setIfInBounds_toArray, List.set_cons_zero, List.set_cons_succ]
    go_big_quiet_on
    go_big_quiet_step (exact calls_below (So100.out _))
    go_big_quiet_want
    refine quiet_load_row 24 (.tmp 10) (by rfl) go50 (by rfl) 24 ro50 (0, 0) _ ?hC2 Try.underlying24 rfl Io50.out ?_
    case hC2 => rintro w' ⟨q, rfl⟩; exact (RP.out.on q.2).row 9
    simp only [Act.put, List.setIfInBounds_toArray, List.set_cons_zero, List.set_cons_succ]
    go_big_quiet_on
    go_big_quiet_step (exact calls_below (Mo100.out _))
    exact wpQuiet_nil rfl
  intro go100 hg _ w9 hb hr
  have RA := Lib.hid (rw_made R8.out hb hg (hr go100 _ (updR_same _ _ _)))
  have RB := Lib.hid (RA.out.store 10 ro100)
  have RC := Lib.hid (RA.out.row 10)
  clear hb hg hr R8
  simp only [List.drop_succ_cons, List.drop_zero, Act.put, List.setIfInBounds_toArray, List.set_cons_zero, List.set_cons_succ]
  go_upto_region 10 with (with_reducible refine wpList_store_row rfl 24 (.tmp 11) (.tmp 47) rfl go100 ro100 rfl rfl 24 #[.int .u64 0, .int .u64 0, .int .u64 0, .int .u64 0, .int .u64 0] RC.out Io100.out Lo100.out Oo100.out ?_)
  simp only [Act.put]
  clear RA RC
  have R9 := Lib.hid (show Rw w [(ga, ra, 24), (gR, #[.int .u64 0, .int .u64 0, .int .u64 0, .int .u64 0, .int .u64 0], 24), (gp2, rp2, 24), (gp9, rp9, 24), (gp11, rp11, 24), (go5, ro5, 24), (go10, ro10, 24), (go20, ro20, 24), (go40, ro40, 24), (go50, ro50, 24), (go100, ro100, 24)] _ from RB.out)
  clear RB
  generalize w9.setRow go100 ro100 = W9 at R9 ⊢
  refine wp_region_makes 4 1 (fun _ => (12, .cells #[.int .u64 0, .int .u64 0, .int .u64 0, .int .u64 0, .int .u64 0] 24 (0, 0))) (by kernel_rfl) (by kernel_rfl) (by rfl) ?hmk ?h
  case hmk =>
    intro j h1 h2
    obtain rfl : j = 4 := by omega
    exact ⟨_, rfl, rfl, fun _ => rfl, fun _ _ => by go_simp⟩
  apply Exists.intro
  refine ⟨?_, ?_⟩
  · intro p hp
    have RP := Lib.hid (R9.out.on hp)
    simp only [List.take_succ_cons, List.take_zero]
    go_big_quiet_want
    refine quiet_load_row 24 (.tmp 11) (by rfl) go100 (by rfl) 24 ro100 (0, 0) _ ?hC1 Try.underlying24 rfl Io100.out ?_
    case hC1 => rintro w' ⟨q, rfl⟩; exact (RP.out.on q.2).row 10
    simp only [Act.put, List.setIfInBounds_toArray, List.set_cons_zero, List.set_cons_succ]
    go_big_quiet_on
    go_big_quiet_step (exact calls_below (So200.out _))
    go_big_quiet_want
    refine quiet_load_row 24 (.tmp 11) (by rfl) go100 (by rfl) 24 ro100 (0, 0) _ ?hC2 Try.underlying24 rfl Io100.out ?_
    case hC2 => rintro w' ⟨q, rfl⟩; exact (RP.out.on q.2).row 10
    simp only [Act.put, List.setIfInBounds_toArray, List.set_cons_zero, List.set_cons_succ]
    go_big_quiet_on
    go_big_quiet_step (exact calls_below (Mo200.out _))
    exact wpQuiet_nil rfl
  intro go200 hg _ w10 hb hr
  have RA := Lib.hid (rw_made R9.out hb hg (hr go200 _ (updR_same _ _ _)))
  have RB := Lib.hid (RA.out.store 11 ro200)
  have RC := Lib.hid (RA.out.row 11)
  clear hb hg hr R9
  simp only [List.drop_succ_cons, List.drop_zero, Act.put, List.setIfInBounds_toArray, List.set_cons_zero, List.set_cons_succ]
  go_upto_region 11 with (with_reducible refine wpList_store_row rfl 24 (.tmp 12) (.tmp 51) rfl go200 ro200 rfl rfl 24 #[.int .u64 0, .int .u64 0, .int .u64 0, .int .u64 0, .int .u64 0] RC.out Io200.out Lo200.out Oo200.out ?_)
  simp only [Act.put]
  clear RA RC
  have R10 := Lib.hid (show Rw w [(ga, ra, 24), (gR, #[.int .u64 0, .int .u64 0, .int .u64 0, .int .u64 0, .int .u64 0], 24), (gp2, rp2, 24), (gp9, rp9, 24), (gp11, rp11, 24), (go5, ro5, 24), (go10, ro10, 24), (go20, ro20, 24), (go40, ro40, 24), (go50, ro50, 24), (go100, ro100, 24), (go200, ro200, 24)] _ from RB.out)
  clear RB
  generalize w10.setRow go200 ro200 = W10 at R10 ⊢
  refine wp_region_makes 4 1 (fun _ => (13, .cells #[.int .u64 0, .int .u64 0, .int .u64 0, .int .u64 0, .int .u64 0] 24 (0, 0))) (by kernel_rfl) (by kernel_rfl) (by rfl) ?hmk ?h
  case hmk =>
    intro j h1 h2
    obtain rfl : j = 4 := by omega
    exact ⟨_, rfl, rfl, fun _ => rfl, fun _ _ => by go_simp⟩
  apply Exists.intro
  refine ⟨?_, ?_⟩
  · intro p hp
    have RP := Lib.hid (R10.out.on hp)
    simp only [List.take_succ_cons, List.take_zero]
    go_big_quiet_want
    refine quiet_load_row 24 (.tmp 12) (by rfl) go200 (by rfl) 24 ro200 (0, 0) _ ?hC1 Try.underlying24 rfl Io200.out ?_
    case hC1 => rintro w' ⟨q, rfl⟩; exact (RP.out.on q.2).row 11
    simp only [Act.put, List.setIfInBounds_toArray, List.set_cons_zero, List.set_cons_succ]
    go_big_quiet_on
    go_big_quiet_step (exact calls_below (So250.out _))
    go_big_quiet_want
    refine quiet_load_row 24 (.tmp 10) (by rfl) go50 (by rfl) 24 ro50 (0, 0) _ ?hC2 Try.underlying24 rfl Io50.out ?_
    case hC2 => rintro w' ⟨q, rfl⟩; exact (RP.out.on q.2).row 9
    simp only [Act.put, List.setIfInBounds_toArray, List.set_cons_zero, List.set_cons_succ]
    go_big_quiet_on
    go_big_quiet_step (exact calls_below (Mo250.out _))
    exact wpQuiet_nil rfl
  intro go250 hg _ w11 hb hr
  have RA := Lib.hid (rw_made R10.out hb hg (hr go250 _ (updR_same _ _ _)))
  have RB := Lib.hid (RA.out.store 12 ro250)
  have RC := Lib.hid (RA.out.row 12)
  clear hb hg hr R10
  simp only [List.drop_succ_cons, List.drop_zero, Act.put, List.setIfInBounds_toArray, List.set_cons_zero, List.set_cons_succ]
  go_upto_region 12 with (with_reducible refine wpList_store_row rfl 24 (.tmp 13) (.tmp 55) rfl go250 ro250 rfl rfl 24 #[.int .u64 0, .int .u64 0, .int .u64 0, .int .u64 0, .int .u64 0] RC.out Io250.out Lo250.out Oo250.out ?_)
  simp only [Act.put]
  clear RA RC
  have R11 := Lib.hid (show Rw w [(ga, ra, 24), (gR, #[.int .u64 0, .int .u64 0, .int .u64 0, .int .u64 0, .int .u64 0], 24), (gp2, rp2, 24), (gp9, rp9, 24), (gp11, rp11, 24), (go5, ro5, 24), (go10, ro10, 24), (go20, ro20, 24), (go40, ro40, 24), (go50, ro50, 24), (go100, ro100, 24), (go200, ro200, 24), (go250, ro250, 24)] _ from RB.out)
  clear RB
  generalize w11.setRow go250 ro250 = W11 at R11 ⊢
  refine wp_region_below_tail 4 (by kernel_rfl) (by kernel_rfl) ?_
  simp only [List.take_succ_cons, List.take_zero]
  go_big_quiet_want
  refine quiet_load_row 24 (.tmp 13) (by rfl) go250 (by rfl) 24 ro250 (0, 0) _ ?hC1 Try.underlying24 rfl Io250.out ?_
  case hC1 => rintro w' ⟨q, rfl⟩; exact (R11.out.on q.2).row 12
  simp only [Act.put, List.setIfInBounds_toArray, List.set_cons_zero, List.set_cons_succ]
  go_big_quiet_on
  go_big_quiet_step (exact calls_below (SR.out _))
  go_big_quiet_want
  refine quiet_load_row 24 (.tmp 5) (by rfl) gp11 (by rfl) 24 rp11 (0, 0) _ ?hC2 Try.underlying24 rfl Ip11.out ?_
  case hC2 => rintro w' ⟨q, rfl⟩; exact (R11.out.on q.2).row 4
  simp only [Act.put, List.setIfInBounds_toArray, List.set_cons_zero, List.set_cons_succ]
  go_big_quiet_on
  go_big_quiet_step (exact calls_below (MR.out _))
  refine wpQuiet_nil ?_
  rintro _ ⟨p, rfl⟩
  have RA := Lib.hid (R11.out.on p.2)
  generalize p.1 = wz at RA ⊢
  have RB := Lib.hid (RA.out.store 1 rR)
  have RC := Lib.hid (RA.out.row 1)
  simp only [List.drop_succ_cons, List.drop_zero]
  go_wp2_with (with_reducible refine wpList_store_row rfl 24 (.tmp 2) (.tmp 59) rfl gR rR rfl rfl 24 #[.int .u64 0, .int .u64 0, .int .u64 0, .int .u64 0, .int .u64 0] RC.out IR.out LR.out OR.out ?_)
  exact bodyPost_ret (results_cell_row rfl _ _ gR 24 rR (0, 0) _ rfl (RB.out.row 1) Try.underlying24 rfl IR.out) rfl ⟨rfl, RB.out.bel⟩
end Go.Proofs.Ythlmphloalbhnaa
