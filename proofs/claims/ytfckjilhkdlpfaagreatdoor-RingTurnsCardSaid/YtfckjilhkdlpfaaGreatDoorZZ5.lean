/-
  Texts of this seat, put together (what is needed of them): FeV, FeX, LdR, LdG, LdH, RFj, LdC, LdI, LdJ, ChaA, ChaB, RefL, RefQ, TurnA, TurnB, Idx.
-/
import Derived.Test.YtfckjilhkdlpfaaGreatDoorZZ4
import Derived.Deep.MidRow
import Derived.Test.YtfckjilhkdlpfaaGreatDoorProg
import Derived.Deep.RegionLaw
import Derived.BigRegion

namespace Go.Proofs.YtfckjilhkdlpfaaGreatDoor
open Go.RowKit MS
theorem rw_add {w0 w : World} {l : List Blk} (h : Rw w0 l w) {g : Nat} {cs : Array Value} {T : TypeId} (hne : ∀ r ∈ l, r.1 ≠ g) (hg : w0.heap.size ≤ g) (hr : w.heap[g]? = some (.cells cs T (0, 0))) : Rw w0 (l ++ [(g, cs, T)]) w := by
  refine ⟨?_, ?_, ?_, h.bel⟩
  · rw [List.map_append, List.nodup_append]
    refine ⟨h.nd, by simp, ?_⟩
    intro a ha b hb
    obtain ⟨r, hr, rfl⟩ := List.mem_map.1 ha
    simp only [List.map_cons, List.map_nil, List.mem_singleton] at hb
    rw [hb]
    exact hne r hr
  · intro r hr
    rcases List.mem_append.1 hr with h1 | h1
    · exact h.ge r h1
    · rw [List.mem_singleton.1 h1]; exact hg
  · intro r hr'
    rcases List.mem_append.1 hr' with h1 | h1
    · exact h.rows r h1
    · rw [List.mem_singleton.1 h1]; exact hr
/-- A variable made in a region that draws. -/
theorem rw_made {w0 w w' : World} {l : List Blk} (h : Rw w0 l w) {g : Nat} {cs : Array Value} {T : TypeId} (hb : Below w.heap.size w w') (hg : w.heap.size ≤ g) (hr : w'.heap[g]? = some (.cells cs T (0, 0))) : Rw w0 (l ++ [(g, cs, T)]) w' :=
  rw_add (h.on hb) (fun r hr => by have := h.lt r hr; omega) (Nat.le_trans h.bel.size hg) hr

set_option maxRecDepth 1000000 in
set_option maxHeartbeats 4000000 in
theorem feinvert_any (a : N5) (ha : a.ok) (w : World) :
    Calls Tryz.prog 73 #[.agg (nvA a)] w fun e w' => e = .returned (.agg (nvA (invN a))) ∧ Below w.heap.size w w' := by
  obtain ⟨p2, ep2⟩ : ∃ x, x = mul a a := ⟨_, rfl⟩
  have hp2 : p2.ok := by rw [ep2]; exact mul_ok ha ha
  obtain ⟨sp9, esp9⟩ : ∃ x, x = sqs p2 2 := ⟨_, rfl⟩
  have hsp9 : sp9.ok := by rw [esp9]; exact sqs_ok hp2 2
  obtain ⟨p9, ep9⟩ : ∃ x, x = mul sp9 a := ⟨_, rfl⟩
  have hp9 : p9.ok := by rw [ep9]; exact mul_ok hsp9 ha
  obtain ⟨p11, ep11⟩ : ∃ x, x = mul p9 p2 := ⟨_, rfl⟩
  have hp11 : p11.ok := by rw [ep11]; exact mul_ok hp9 hp2
  obtain ⟨so5, eso5⟩ : ∃ x, x = sqs p11 1 := ⟨_, rfl⟩
  have hso5 : so5.ok := by rw [eso5]; exact sqs_ok hp11 1
  obtain ⟨o5, eo5⟩ : ∃ x, x = mul so5 p9 := ⟨_, rfl⟩
  have ho5 : o5.ok := by rw [eo5]; exact mul_ok hso5 hp9
  obtain ⟨so10, eso10⟩ : ∃ x, x = sqs o5 5 := ⟨_, rfl⟩
  have hso10 : so10.ok := by rw [eso10]; exact sqs_ok ho5 5
  obtain ⟨o10, eo10⟩ : ∃ x, x = mul so10 o5 := ⟨_, rfl⟩
  have ho10 : o10.ok := by rw [eo10]; exact mul_ok hso10 ho5
  obtain ⟨so20, eso20⟩ : ∃ x, x = sqs o10 10 := ⟨_, rfl⟩
  have hso20 : so20.ok := by rw [eso20]; exact sqs_ok ho10 10
  obtain ⟨o20, eo20⟩ : ∃ x, x = mul so20 o10 := ⟨_, rfl⟩
  have ho20 : o20.ok := by rw [eo20]; exact mul_ok hso20 ho10
  obtain ⟨so40, eso40⟩ : ∃ x, x = sqs o20 20 := ⟨_, rfl⟩
  have hso40 : so40.ok := by rw [eso40]; exact sqs_ok ho20 20
  obtain ⟨o40, eo40⟩ : ∃ x, x = mul so40 o20 := ⟨_, rfl⟩
  have ho40 : o40.ok := by rw [eo40]; exact mul_ok hso40 ho20
  obtain ⟨so50, eso50⟩ : ∃ x, x = sqs o40 10 := ⟨_, rfl⟩
  have hso50 : so50.ok := by rw [eso50]; exact sqs_ok ho40 10
  obtain ⟨o50, eo50⟩ : ∃ x, x = mul so50 o10 := ⟨_, rfl⟩
  have ho50 : o50.ok := by rw [eo50]; exact mul_ok hso50 ho10
  obtain ⟨so100, eso100⟩ : ∃ x, x = sqs o50 50 := ⟨_, rfl⟩
  have hso100 : so100.ok := by rw [eso100]; exact sqs_ok ho50 50
  obtain ⟨o100, eo100⟩ : ∃ x, x = mul so100 o50 := ⟨_, rfl⟩
  have ho100 : o100.ok := by rw [eo100]; exact mul_ok hso100 ho50
  obtain ⟨so200, eso200⟩ : ∃ x, x = sqs o100 100 := ⟨_, rfl⟩
  have hso200 : so200.ok := by rw [eso200]; exact sqs_ok ho100 100
  obtain ⟨o200, eo200⟩ : ∃ x, x = mul so200 o100 := ⟨_, rfl⟩
  have ho200 : o200.ok := by rw [eo200]; exact mul_ok hso200 ho100
  obtain ⟨so250, eso250⟩ : ∃ x, x = sqs o200 50 := ⟨_, rfl⟩
  have hso250 : so250.ok := by rw [eso250]; exact sqs_ok ho200 50
  obtain ⟨o250, eo250⟩ : ∃ x, x = mul so250 o50 := ⟨_, rfl⟩
  have ho250 : o250.ok := by rw [eo250]; exact mul_ok hso250 ho50
  obtain ⟨sR, esR⟩ : ∃ x, x = sqs o250 5 := ⟨_, rfl⟩
  have hsR : sR.ok := by rw [esR]; exact sqs_ok ho250 5
  obtain ⟨R, eR⟩ : ∃ x, x = mul sR p11 := ⟨_, rfl⟩
  have hR : R.ok := by rw [eR]; exact mul_ok hsR hp11
  have eR0 : invN a = R := by subst eR esR eo250 eso250 eo200 eso200 eo100 eso100 eo50 eso50 eo40 eso40 eo20 eso20 eo10 eso10 eo5 eso5 ep11 ep9 esp9 ep2; rfl
  rw [eR0]
  have Mp2 := Lib.hid (fun w => femul_any a a ha ha w)
  rw [← ep2] at Mp2
  have Sp9 := Lib.hid (fun w => squares_any p2 2 hp2 (by decide) w)
  rw [← esp9, show ((2 : Nat) : Int) = 2 from rfl] at Sp9
  have Mp9 := Lib.hid (fun w => femul_any sp9 a hsp9 ha w)
  rw [← ep9] at Mp9
  have Mp11 := Lib.hid (fun w => femul_any p9 p2 hp9 hp2 w)
  rw [← ep11] at Mp11
  have So5 := Lib.hid (fun w => squares_any p11 1 hp11 (by decide) w)
  rw [← eso5, show ((1 : Nat) : Int) = 1 from rfl] at So5
  have Mo5 := Lib.hid (fun w => femul_any so5 p9 hso5 hp9 w)
  rw [← eo5] at Mo5
  have So10 := Lib.hid (fun w => squares_any o5 5 ho5 (by decide) w)
  rw [← eso10, show ((5 : Nat) : Int) = 5 from rfl] at So10
  have Mo10 := Lib.hid (fun w => femul_any so10 o5 hso10 ho5 w)
  rw [← eo10] at Mo10
  have So20 := Lib.hid (fun w => squares_any o10 10 ho10 (by decide) w)
  rw [← eso20, show ((10 : Nat) : Int) = 10 from rfl] at So20
  have Mo20 := Lib.hid (fun w => femul_any so20 o10 hso20 ho10 w)
  rw [← eo20] at Mo20
  have So40 := Lib.hid (fun w => squares_any o20 20 ho20 (by decide) w)
  rw [← eso40, show ((20 : Nat) : Int) = 20 from rfl] at So40
  have Mo40 := Lib.hid (fun w => femul_any so40 o20 hso40 ho20 w)
  rw [← eo40] at Mo40
  have So50 := Lib.hid (fun w => squares_any o40 10 ho40 (by decide) w)
  rw [← eso50, show ((10 : Nat) : Int) = 10 from rfl] at So50
  have Mo50 := Lib.hid (fun w => femul_any so50 o10 hso50 ho10 w)
  rw [← eo50] at Mo50
  have So100 := Lib.hid (fun w => squares_any o50 50 ho50 (by decide) w)
  rw [← eso100, show ((50 : Nat) : Int) = 50 from rfl] at So100
  have Mo100 := Lib.hid (fun w => femul_any so100 o50 hso100 ho50 w)
  rw [← eo100] at Mo100
  have So200 := Lib.hid (fun w => squares_any o100 100 ho100 (by decide) w)
  rw [← eso200, show ((100 : Nat) : Int) = 100 from rfl] at So200
  have Mo200 := Lib.hid (fun w => femul_any so200 o100 hso200 ho100 w)
  rw [← eo200] at Mo200
  have So250 := Lib.hid (fun w => squares_any o200 50 ho200 (by decide) w)
  rw [← eso250, show ((50 : Nat) : Int) = 50 from rfl] at So250
  have Mo250 := Lib.hid (fun w => femul_any so250 o50 hso250 ho50 w)
  rw [← eo250] at Mo250
  have SR := Lib.hid (fun w => squares_any o250 5 ho250 (by decide) w)
  rw [← esR, show ((5 : Nat) : Int) = 5 from rfl] at SR
  have MR := Lib.hid (fun w => femul_any sR p11 hsR hp11 w)
  rw [← eR] at MR
  have Ia := Lib.hid (infoV a)
  have Oa := Lib.hid (one_nvA a)
  have La := Lib.hid (show (#[.int .u64 0, .int .u64 0, .int .u64 0, .int .u64 0, .int .u64 0] : Array Value).size = (nvA a).size from rfl)
  have Ip2 := Lib.hid (infoV p2)
  have Op2 := Lib.hid (one_nvA p2)
  have Lp2 := Lib.hid (show (#[.int .u64 0, .int .u64 0, .int .u64 0, .int .u64 0, .int .u64 0] : Array Value).size = (nvA p2).size from rfl)
  have Ip9 := Lib.hid (infoV p9)
  have Op9 := Lib.hid (one_nvA p9)
  have Lp9 := Lib.hid (show (#[.int .u64 0, .int .u64 0, .int .u64 0, .int .u64 0, .int .u64 0] : Array Value).size = (nvA p9).size from rfl)
  have Ip11 := Lib.hid (infoV p11)
  have Op11 := Lib.hid (one_nvA p11)
  have Lp11 := Lib.hid (show (#[.int .u64 0, .int .u64 0, .int .u64 0, .int .u64 0, .int .u64 0] : Array Value).size = (nvA p11).size from rfl)
  have Io5 := Lib.hid (infoV o5)
  have Oo5 := Lib.hid (one_nvA o5)
  have Lo5 := Lib.hid (show (#[.int .u64 0, .int .u64 0, .int .u64 0, .int .u64 0, .int .u64 0] : Array Value).size = (nvA o5).size from rfl)
  have Io10 := Lib.hid (infoV o10)
  have Oo10 := Lib.hid (one_nvA o10)
  have Lo10 := Lib.hid (show (#[.int .u64 0, .int .u64 0, .int .u64 0, .int .u64 0, .int .u64 0] : Array Value).size = (nvA o10).size from rfl)
  have Io20 := Lib.hid (infoV o20)
  have Oo20 := Lib.hid (one_nvA o20)
  have Lo20 := Lib.hid (show (#[.int .u64 0, .int .u64 0, .int .u64 0, .int .u64 0, .int .u64 0] : Array Value).size = (nvA o20).size from rfl)
  have Io40 := Lib.hid (infoV o40)
  have Oo40 := Lib.hid (one_nvA o40)
  have Lo40 := Lib.hid (show (#[.int .u64 0, .int .u64 0, .int .u64 0, .int .u64 0, .int .u64 0] : Array Value).size = (nvA o40).size from rfl)
  have Io50 := Lib.hid (infoV o50)
  have Oo50 := Lib.hid (one_nvA o50)
  have Lo50 := Lib.hid (show (#[.int .u64 0, .int .u64 0, .int .u64 0, .int .u64 0, .int .u64 0] : Array Value).size = (nvA o50).size from rfl)
  have Io100 := Lib.hid (infoV o100)
  have Oo100 := Lib.hid (one_nvA o100)
  have Lo100 := Lib.hid (show (#[.int .u64 0, .int .u64 0, .int .u64 0, .int .u64 0, .int .u64 0] : Array Value).size = (nvA o100).size from rfl)
  have Io200 := Lib.hid (infoV o200)
  have Oo200 := Lib.hid (one_nvA o200)
  have Lo200 := Lib.hid (show (#[.int .u64 0, .int .u64 0, .int .u64 0, .int .u64 0, .int .u64 0] : Array Value).size = (nvA o200).size from rfl)
  have Io250 := Lib.hid (infoV o250)
  have Oo250 := Lib.hid (one_nvA o250)
  have Lo250 := Lib.hid (show (#[.int .u64 0, .int .u64 0, .int .u64 0, .int .u64 0, .int .u64 0] : Array Value).size = (nvA o250).size from rfl)
  have IR := Lib.hid (infoV R)
  have OR := Lib.hid (one_nvA R)
  have LR := Lib.hid (show (#[.int .u64 0, .int .u64 0, .int .u64 0, .int .u64 0, .int .u64 0] : Array Value).size = (nvA R).size from rfl)
  have R0 := Lib.hid (show Rw w [(w.heap.size, nvA a, 94), (w.heap.size + 1, #[.int .u64 0, .int .u64 0, .int .u64 0, .int .u64 0, .int .u64 0], 94)] ((w.alloc (.cells (nvA a) 94 (0, 0))).alloc (.cells #[.int .u64 0, .int .u64 0, .int .u64 0, .int .u64 0, .int .u64 0] 94 (0, 0))) from rw2 w (nvA a) #[.int .u64 0, .int .u64 0, .int .u64 0, .int .u64 0, .int .u64 0])
  clear ep2 ep9 ep11 eo5 eo10 eo20 eo40 eo50 eo100 eo200 eo250 eR esp9 eso5 eso10 eso20 eso40 eso50 eso100 eso200 eso250 esR eR0
  generalize nvA R = rR at *
  generalize nvA sR = rsR at *
  generalize nvA o250 = ro250 at *
  generalize nvA so250 = rso250 at *
  generalize nvA o200 = ro200 at *
  generalize nvA so200 = rso200 at *
  generalize nvA o100 = ro100 at *
  generalize nvA so100 = rso100 at *
  generalize nvA o50 = ro50 at *
  generalize nvA so50 = rso50 at *
  generalize nvA o40 = ro40 at *
  generalize nvA so40 = rso40 at *
  generalize nvA o20 = ro20 at *
  generalize nvA so20 = rso20 at *
  generalize nvA o10 = ro10 at *
  generalize nvA so10 = rso10 at *
  generalize nvA o5 = ro5 at *
  generalize nvA so5 = rso5 at *
  generalize nvA p11 = rp11 at *
  generalize nvA p9 = rp9 at *
  generalize nvA sp9 = rsp9 at *
  generalize nvA p2 = rp2 at *
  generalize nvA a = ra at *
  clear hp2 hp9 hp11 ho5 ho10 ho20 ho40 ho50 ho100 ho200 ho250 hR hsp9 hso5 hso10 hso20 hso40 hso50 hso100 hso200 hso250 hsR ha
  go_enter Tryz.func73, Tryz.ntmps73
  go_upto_region 1 with fail
  generalize (w.alloc (.cells ra 94 (0, 0))).alloc (.cells #[.int .u64 0, .int .u64 0, .int .u64 0, .int .u64 0, .int .u64 0] 94 (0, 0)) = W0 at R0 ⊢
  generalize w.heap.size + 1 = gR at *
  generalize w.heap.size = ga at R0 ⊢
  have RX := Lib.hid (R0.out.row 0)
  have RY := Lib.hid (R0.out.row 0)
  go_wp2_with (first
    | (with_reducible refine wpList_load_row rfl 94 (.tmp 1) rfl ga rfl 94 ra (0, 0) _ RX.out Tryz.underlying94 rfl Ia.out ?_)
    | (with_reducible refine wpList_load_row rfl 94 (.tmp 1) rfl ga rfl 94 ra (0, 0) _ RY.out Tryz.underlying94 rfl Ia.out ?_))
  refine (Mp2.out _).mono ?_
  rintro e w1 ⟨rfl, hb⟩
  have RA := Lib.hid ((R0.out.on hb).alloc #[.int .u64 0, .int .u64 0, .int .u64 0, .int .u64 0, .int .u64 0] 94)
  have RB := Lib.hid (RA.out.store 2 rp2)
  have RC := Lib.hid (RA.out.row 2)
  clear hb RX RY R0
  go_upto_region 2 with (with_reducible refine wpList_store_row rfl 94 (.tmp 3) (.tmp 16) rfl w1.heap.size rp2 rfl rfl 94 #[.int .u64 0, .int .u64 0, .int .u64 0, .int .u64 0, .int .u64 0] RC.out Ip2.out Lp2.out Op2.out ?_)
  simp only [Act.put]
  clear RA RC
  have R1 := Lib.hid (show Rw w [(ga, ra, 94), (gR, #[.int .u64 0, .int .u64 0, .int .u64 0, .int .u64 0, .int .u64 0], 94), (w1.heap.size, rp2, 94)] _ from RB.out)
  clear RB
  generalize (w1.alloc (.cells #[.int .u64 0, .int .u64 0, .int .u64 0, .int .u64 0, .int .u64 0] 94 (0, 0))).setRow w1.heap.size rp2 = W1 at R1 ⊢
  generalize w1.heap.size = gp2 at R1 ⊢
  refine wp_region_makes 4 1 (fun _ => (4, .cells #[.int .u64 0, .int .u64 0, .int .u64 0, .int .u64 0, .int .u64 0] 94 (0, 0))) (by kernel_rfl) (by kernel_rfl) (by rfl) ?hmk ?h
  case hmk =>
    intro j h1 h2
    obtain rfl : j = 4 := by omega
    exact ⟨_, rfl, rfl, fun _ => rfl, fun _ _ => by go_simp⟩
  apply Exists.intro
  refine ⟨?_, ?_⟩
  · intro p hp
    have RP := Lib.hid (R1.out.on hp)
    simp only [List.take_succ_cons, List.take_zero]
    go_big_quiet_want
    refine quiet_load_row 94 (.tmp 3) (by rfl) gp2 (by rfl) 94 rp2 (0, 0) _ ?hC1 Tryz.underlying94 rfl Ip2.out ?_
    case hC1 => rintro w' ⟨q, rfl⟩; exact (RP.out.on q.2).row 2
    simp only [Act.put, List.setIfInBounds_toArray, List.set_cons_zero, List.set_cons_succ]
    go_big_quiet_on
    go_big_quiet_step (exact calls_below (Sp9.out _))
    go_big_quiet_want
    refine quiet_load_row 94 (.tmp 1) (by rfl) ga (by rfl) 94 ra (0, 0) _ ?hC2 Tryz.underlying94 rfl Ia.out ?_
    case hC2 => rintro w' ⟨q, rfl⟩; exact (RP.out.on q.2).row 0
    simp only [Act.put, List.setIfInBounds_toArray, List.set_cons_zero, List.set_cons_succ]
    go_big_quiet_on
    go_big_quiet_step (exact calls_below (Mp9.out _))
    exact wpQuiet_nil rfl
  intro gp9 hg _ w2 hb hr
  have RA := Lib.hid (rw_made R1.out hb hg (hr gp9 _ (updR_same _ _ _)))
  have RB := Lib.hid (RA.out.store 3 rp9)
  have RC := Lib.hid (RA.out.row 3)
  clear hb hg hr R1
  simp only [List.drop_succ_cons, List.drop_zero, Act.put, List.setIfInBounds_toArray, List.set_cons_zero, List.set_cons_succ]
  go_upto_region 3 with (with_reducible refine wpList_store_row rfl 94 (.tmp 4) (.tmp 20) rfl gp9 rp9 rfl rfl 94 #[.int .u64 0, .int .u64 0, .int .u64 0, .int .u64 0, .int .u64 0] RC.out Ip9.out Lp9.out Op9.out ?_)
  clear RA RC
  have R2 := Lib.hid (show Rw w [(ga, ra, 94), (gR, #[.int .u64 0, .int .u64 0, .int .u64 0, .int .u64 0, .int .u64 0], 94), (gp2, rp2, 94), (gp9, rp9, 94)] _ from RB.out)
  clear RB
  generalize w2.setRow gp9 rp9 = W2 at R2 ⊢
  have RX := Lib.hid (R2.out.row 3)
  have RY := Lib.hid (R2.out.row 2)
  go_wp2_with (first
    | (with_reducible refine wpList_load_row rfl 94 (.tmp 4) rfl gp9 rfl 94 rp9 (0, 0) _ RX.out Tryz.underlying94 rfl Ip9.out ?_)
    | (with_reducible refine wpList_load_row rfl 94 (.tmp 3) rfl gp2 rfl 94 rp2 (0, 0) _ RY.out Tryz.underlying94 rfl Ip2.out ?_))
  refine (Mp11.out _).mono ?_
  rintro e w3 ⟨rfl, hb⟩
  have RA := Lib.hid ((R2.out.on hb).alloc #[.int .u64 0, .int .u64 0, .int .u64 0, .int .u64 0, .int .u64 0] 94)
  have RB := Lib.hid (RA.out.store 4 rp11)
  have RC := Lib.hid (RA.out.row 4)
  clear hb RX RY R2
  go_upto_region 4 with (with_reducible refine wpList_store_row rfl 94 (.tmp 5) (.tmp 23) rfl w3.heap.size rp11 rfl rfl 94 #[.int .u64 0, .int .u64 0, .int .u64 0, .int .u64 0, .int .u64 0] RC.out Ip11.out Lp11.out Op11.out ?_)
  simp only [Act.put]
  clear RA RC
  have R3 := Lib.hid (show Rw w [(ga, ra, 94), (gR, #[.int .u64 0, .int .u64 0, .int .u64 0, .int .u64 0, .int .u64 0], 94), (gp2, rp2, 94), (gp9, rp9, 94), (w3.heap.size, rp11, 94)] _ from RB.out)
  clear RB
  generalize (w3.alloc (.cells #[.int .u64 0, .int .u64 0, .int .u64 0, .int .u64 0, .int .u64 0] 94 (0, 0))).setRow w3.heap.size rp11 = W3 at R3 ⊢
  generalize w3.heap.size = gp11 at R3 ⊢
  refine wp_region_makes 4 1 (fun _ => (6, .cells #[.int .u64 0, .int .u64 0, .int .u64 0, .int .u64 0, .int .u64 0] 94 (0, 0))) (by kernel_rfl) (by kernel_rfl) (by rfl) ?hmk ?h
  case hmk =>
    intro j h1 h2
    obtain rfl : j = 4 := by omega
    exact ⟨_, rfl, rfl, fun _ => rfl, fun _ _ => by go_simp⟩
  apply Exists.intro
  refine ⟨?_, ?_⟩
  · intro p hp
    have RP := Lib.hid (R3.out.on hp)
    simp only [List.take_succ_cons, List.take_zero]
    go_big_quiet_want
    refine quiet_load_row 94 (.tmp 5) (by rfl) gp11 (by rfl) 94 rp11 (0, 0) _ ?hC1 Tryz.underlying94 rfl Ip11.out ?_
    case hC1 => rintro w' ⟨q, rfl⟩; exact (RP.out.on q.2).row 4
    simp only [Act.put, List.setIfInBounds_toArray, List.set_cons_zero, List.set_cons_succ]
    go_big_quiet_on
    go_big_quiet_step (exact calls_below (So5.out _))
    go_big_quiet_want
    refine quiet_load_row 94 (.tmp 4) (by rfl) gp9 (by rfl) 94 rp9 (0, 0) _ ?hC2 Tryz.underlying94 rfl Ip9.out ?_
    case hC2 => rintro w' ⟨q, rfl⟩; exact (RP.out.on q.2).row 3
    simp only [Act.put, List.setIfInBounds_toArray, List.set_cons_zero, List.set_cons_succ]
    go_big_quiet_on
    go_big_quiet_step (exact calls_below (Mo5.out _))
    exact wpQuiet_nil rfl
  intro go5 hg _ w4 hb hr
  have RA := Lib.hid (rw_made R3.out hb hg (hr go5 _ (updR_same _ _ _)))
  have RB := Lib.hid (RA.out.store 5 ro5)
  have RC := Lib.hid (RA.out.row 5)
  clear hb hg hr R3
  simp only [List.drop_succ_cons, List.drop_zero, Act.put, List.setIfInBounds_toArray, List.set_cons_zero, List.set_cons_succ]
  go_upto_region 5 with (with_reducible refine wpList_store_row rfl 94 (.tmp 6) (.tmp 27) rfl go5 ro5 rfl rfl 94 #[.int .u64 0, .int .u64 0, .int .u64 0, .int .u64 0, .int .u64 0] RC.out Io5.out Lo5.out Oo5.out ?_)
  simp only [Act.put]
  clear RA RC
  have R4 := Lib.hid (show Rw w [(ga, ra, 94), (gR, #[.int .u64 0, .int .u64 0, .int .u64 0, .int .u64 0, .int .u64 0], 94), (gp2, rp2, 94), (gp9, rp9, 94), (gp11, rp11, 94), (go5, ro5, 94)] _ from RB.out)
  clear RB
  generalize w4.setRow go5 ro5 = W4 at R4 ⊢
  refine wp_region_makes 4 1 (fun _ => (7, .cells #[.int .u64 0, .int .u64 0, .int .u64 0, .int .u64 0, .int .u64 0] 94 (0, 0))) (by kernel_rfl) (by kernel_rfl) (by rfl) ?hmk ?h
  case hmk =>
    intro j h1 h2
    obtain rfl : j = 4 := by omega
    exact ⟨_, rfl, rfl, fun _ => rfl, fun _ _ => by go_simp⟩
  apply Exists.intro
  refine ⟨?_, ?_⟩
  · intro p hp
    have RP := Lib.hid (R4.out.on hp)
    simp only [List.take_succ_cons, List.take_zero]
    go_big_quiet_want
    refine quiet_load_row 94 (.tmp 6) (by rfl) go5 (by rfl) 94 ro5 (0, 0) _ ?hC1 Tryz.underlying94 rfl Io5.out ?_
    case hC1 => rintro w' ⟨q, rfl⟩; exact (RP.out.on q.2).row 5
    simp only [Act.put, List.setIfInBounds_toArray, List.set_cons_zero, List.set_cons_succ]
    go_big_quiet_on
    go_big_quiet_step (exact calls_below (So10.out _))
    go_big_quiet_want
    refine quiet_load_row 94 (.tmp 6) (by rfl) go5 (by rfl) 94 ro5 (0, 0) _ ?hC2 Tryz.underlying94 rfl Io5.out ?_
    case hC2 => rintro w' ⟨q, rfl⟩; exact (RP.out.on q.2).row 5
    simp only [Act.put, List.setIfInBounds_toArray, List.set_cons_zero, List.set_cons_succ]
    go_big_quiet_on
    go_big_quiet_step (exact calls_below (Mo10.out _))
    exact wpQuiet_nil rfl
  intro go10 hg _ w5 hb hr
  have RA := Lib.hid (rw_made R4.out hb hg (hr go10 _ (updR_same _ _ _)))
  have RB := Lib.hid (RA.out.store 6 ro10)
  have RC := Lib.hid (RA.out.row 6)
  clear hb hg hr R4
  simp only [List.drop_succ_cons, List.drop_zero, Act.put, List.setIfInBounds_toArray, List.set_cons_zero, List.set_cons_succ]
  go_upto_region 6 with (with_reducible refine wpList_store_row rfl 94 (.tmp 7) (.tmp 31) rfl go10 ro10 rfl rfl 94 #[.int .u64 0, .int .u64 0, .int .u64 0, .int .u64 0, .int .u64 0] RC.out Io10.out Lo10.out Oo10.out ?_)
  simp only [Act.put]
  clear RA RC
  have R5 := Lib.hid (show Rw w [(ga, ra, 94), (gR, #[.int .u64 0, .int .u64 0, .int .u64 0, .int .u64 0, .int .u64 0], 94), (gp2, rp2, 94), (gp9, rp9, 94), (gp11, rp11, 94), (go5, ro5, 94), (go10, ro10, 94)] _ from RB.out)
  clear RB
  generalize w5.setRow go10 ro10 = W5 at R5 ⊢
  refine wp_region_makes 4 1 (fun _ => (8, .cells #[.int .u64 0, .int .u64 0, .int .u64 0, .int .u64 0, .int .u64 0] 94 (0, 0))) (by kernel_rfl) (by kernel_rfl) (by rfl) ?hmk ?h
  case hmk =>
    intro j h1 h2
    obtain rfl : j = 4 := by omega
    exact ⟨_, rfl, rfl, fun _ => rfl, fun _ _ => by go_simp⟩
  apply Exists.intro
  refine ⟨?_, ?_⟩
  · intro p hp
    have RP := Lib.hid (R5.out.on hp)
    simp only [List.take_succ_cons, List.take_zero]
    go_big_quiet_want
    refine quiet_load_row 94 (.tmp 7) (by rfl) go10 (by rfl) 94 ro10 (0, 0) _ ?hC1 Tryz.underlying94 rfl Io10.out ?_
    case hC1 => rintro w' ⟨q, rfl⟩; exact (RP.out.on q.2).row 6
    simp only [Act.put, List.setIfInBounds_toArray, List.set_cons_zero, List.set_cons_succ]
    go_big_quiet_on
    go_big_quiet_step (exact calls_below (So20.out _))
    go_big_quiet_want
    refine quiet_load_row 94 (.tmp 7) (by rfl) go10 (by rfl) 94 ro10 (0, 0) _ ?hC2 Tryz.underlying94 rfl Io10.out ?_
    case hC2 => rintro w' ⟨q, rfl⟩; exact (RP.out.on q.2).row 6
    simp only [Act.put, List.setIfInBounds_toArray, List.set_cons_zero, List.set_cons_succ]
    go_big_quiet_on
    go_big_quiet_step (exact calls_below (Mo20.out _))
    exact wpQuiet_nil rfl
  intro go20 hg _ w6 hb hr
  have RA := Lib.hid (rw_made R5.out hb hg (hr go20 _ (updR_same _ _ _)))
  have RB := Lib.hid (RA.out.store 7 ro20)
  have RC := Lib.hid (RA.out.row 7)
  clear hb hg hr R5
  simp only [List.drop_succ_cons, List.drop_zero, Act.put, List.setIfInBounds_toArray, List.set_cons_zero, List.set_cons_succ]
  go_upto_region 7 with (with_reducible refine wpList_store_row rfl 94 (.tmp 8) (.tmp 35) rfl go20 ro20 rfl rfl 94 #[.int .u64 0, .int .u64 0, .int .u64 0, .int .u64 0, .int .u64 0] RC.out Io20.out Lo20.out Oo20.out ?_)
  simp only [Act.put]
  clear RA RC
  have R6 := Lib.hid (show Rw w [(ga, ra, 94), (gR, #[.int .u64 0, .int .u64 0, .int .u64 0, .int .u64 0, .int .u64 0], 94), (gp2, rp2, 94), (gp9, rp9, 94), (gp11, rp11, 94), (go5, ro5, 94), (go10, ro10, 94), (go20, ro20, 94)] _ from RB.out)
  clear RB
  generalize w6.setRow go20 ro20 = W6 at R6 ⊢
  refine wp_region_makes 4 1 (fun _ => (9, .cells #[.int .u64 0, .int .u64 0, .int .u64 0, .int .u64 0, .int .u64 0] 94 (0, 0))) (by kernel_rfl) (by kernel_rfl) (by rfl) ?hmk ?h
  case hmk =>
    intro j h1 h2
    obtain rfl : j = 4 := by omega
    exact ⟨_, rfl, rfl, fun _ => rfl, fun _ _ => by go_simp⟩
  apply Exists.intro
  refine ⟨?_, ?_⟩
  · intro p hp
    have RP := Lib.hid (R6.out.on hp)
    simp only [List.take_succ_cons, List.take_zero]
    go_big_quiet_want
    refine quiet_load_row 94 (.tmp 8) (by rfl) go20 (by rfl) 94 ro20 (0, 0) _ ?hC1 Tryz.underlying94 rfl Io20.out ?_
    case hC1 => rintro w' ⟨q, rfl⟩; exact (RP.out.on q.2).row 7
    simp only [Act.put, List.setIfInBounds_toArray, List.set_cons_zero, List.set_cons_succ]
    go_big_quiet_on
    go_big_quiet_step (exact calls_below (So40.out _))
    go_big_quiet_want
    refine quiet_load_row 94 (.tmp 8) (by rfl) go20 (by rfl) 94 ro20 (0, 0) _ ?hC2 Tryz.underlying94 rfl Io20.out ?_
    case hC2 => rintro w' ⟨q, rfl⟩; exact (RP.out.on q.2).row 7
    simp only [Act.put, List.setIfInBounds_toArray, List.set_cons_zero, List.set_cons_succ]
    go_big_quiet_on
    go_big_quiet_step (exact calls_below (Mo40.out _))
    exact wpQuiet_nil rfl
  intro go40 hg _ w7 hb hr
  have RA := Lib.hid (rw_made R6.out hb hg (hr go40 _ (updR_same _ _ _)))
  have RB := Lib.hid (RA.out.store 8 ro40)
  have RC := Lib.hid (RA.out.row 8)
  clear hb hg hr R6
  simp only [List.drop_succ_cons, List.drop_zero, Act.put, List.setIfInBounds_toArray, List.set_cons_zero, List.set_cons_succ]
  go_upto_region 8 with (with_reducible refine wpList_store_row rfl 94 (.tmp 9) (.tmp 39) rfl go40 ro40 rfl rfl 94 #[.int .u64 0, .int .u64 0, .int .u64 0, .int .u64 0, .int .u64 0] RC.out Io40.out Lo40.out Oo40.out ?_)
  simp only [Act.put]
  clear RA RC
  have R7 := Lib.hid (show Rw w [(ga, ra, 94), (gR, #[.int .u64 0, .int .u64 0, .int .u64 0, .int .u64 0, .int .u64 0], 94), (gp2, rp2, 94), (gp9, rp9, 94), (gp11, rp11, 94), (go5, ro5, 94), (go10, ro10, 94), (go20, ro20, 94), (go40, ro40, 94)] _ from RB.out)
  clear RB
  generalize w7.setRow go40 ro40 = W7 at R7 ⊢
  refine wp_region_makes 4 1 (fun _ => (10, .cells #[.int .u64 0, .int .u64 0, .int .u64 0, .int .u64 0, .int .u64 0] 94 (0, 0))) (by kernel_rfl) (by kernel_rfl) (by rfl) ?hmk ?h
  case hmk =>
    intro j h1 h2
    obtain rfl : j = 4 := by omega
    exact ⟨_, rfl, rfl, fun _ => rfl, fun _ _ => by go_simp⟩
  apply Exists.intro
  refine ⟨?_, ?_⟩
  · intro p hp
    have RP := Lib.hid (R7.out.on hp)
    simp only [List.take_succ_cons, List.take_zero]
    go_big_quiet_want
    refine quiet_load_row 94 (.tmp 9) (by rfl) go40 (by rfl) 94 ro40 (0, 0) _ ?hC1 Tryz.underlying94 rfl Io40.out ?_
    case hC1 => rintro w' ⟨q, rfl⟩; exact (RP.out.on q.2).row 8
    simp only [Act.put, List.setIfInBounds_toArray, List.set_cons_zero, List.set_cons_succ]
    go_big_quiet_on
    go_big_quiet_step (exact calls_below (So50.out _))
    go_big_quiet_want
    refine quiet_load_row 94 (.tmp 7) (by rfl) go10 (by rfl) 94 ro10 (0, 0) _ ?hC2 Tryz.underlying94 rfl Io10.out ?_
    case hC2 => rintro w' ⟨q, rfl⟩; exact (RP.out.on q.2).row 6
    simp only [Act.put, List.setIfInBounds_toArray, List.set_cons_zero, List.set_cons_succ]
    go_big_quiet_on
    go_big_quiet_step (exact calls_below (Mo50.out _))
    exact wpQuiet_nil rfl
  intro go50 hg _ w8 hb hr
  have RA := Lib.hid (rw_made R7.out hb hg (hr go50 _ (updR_same _ _ _)))
  have RB := Lib.hid (RA.out.store 9 ro50)
  have RC := Lib.hid (RA.out.row 9)
  clear hb hg hr R7
  simp only [List.drop_succ_cons, List.drop_zero, Act.put, List.setIfInBounds_toArray, List.set_cons_zero, List.set_cons_succ]
  go_upto_region 9 with (with_reducible refine wpList_store_row rfl 94 (.tmp 10) (.tmp 43) rfl go50 ro50 rfl rfl 94 #[.int .u64 0, .int .u64 0, .int .u64 0, .int .u64 0, .int .u64 0] RC.out Io50.out Lo50.out Oo50.out ?_)
  simp only [Act.put]
  clear RA RC
  have R8 := Lib.hid (show Rw w [(ga, ra, 94), (gR, #[.int .u64 0, .int .u64 0, .int .u64 0, .int .u64 0, .int .u64 0], 94), (gp2, rp2, 94), (gp9, rp9, 94), (gp11, rp11, 94), (go5, ro5, 94), (go10, ro10, 94), (go20, ro20, 94), (go40, ro40, 94), (go50, ro50, 94)] _ from RB.out)
  clear RB
  generalize w8.setRow go50 ro50 = W8 at R8 ⊢
  refine wp_region_makes 4 1 (fun _ => (11, .cells #[.int .u64 0, .int .u64 0, .int .u64 0, .int .u64 0, .int .u64 0] 94 (0, 0))) (by kernel_rfl) (by kernel_rfl) (by rfl) ?hmk ?h
  case hmk =>
    intro j h1 h2
    obtain rfl : j = 4 := by omega
    exact ⟨_, rfl, rfl, fun _ => rfl, fun _ _ => by go_simp⟩
  apply Exists.intro
  refine ⟨?_, ?_⟩
  · intro p hp
    have RP := Lib.hid (R8.out.on hp)
    simp only [List.take_succ_cons, List.take_zero]
    go_big_quiet_want
    refine quiet_load_row 94 (.tmp 10) (by rfl) go50 (by rfl) 94 ro50 (0, 0) _ ?hC1 Tryz.underlying94 rfl Io50.out ?_
    case hC1 => rintro w' ⟨q, rfl⟩; exact (RP.out.on q.2).row 9
    simp only [Act.put, List.setIfInBounds_toArray, List.set_cons_zero, List.set_cons_succ]
    go_big_quiet_on
    go_big_quiet_step (exact calls_below (So100.out _))
    go_big_quiet_want
    refine quiet_load_row 94 (.tmp 10) (by rfl) go50 (by rfl) 94 ro50 (0, 0) _ ?hC2 Tryz.underlying94 rfl Io50.out ?_
    case hC2 => rintro w' ⟨q, rfl⟩; exact (RP.out.on q.2).row 9
    simp only [Act.put, List.setIfInBounds_toArray, List.set_cons_zero, List.set_cons_succ]
    go_big_quiet_on
    go_big_quiet_step (exact calls_below (Mo100.out _))
    exact wpQuiet_nil rfl
  intro go100 hg _ w9 hb hr
  have RA := Lib.hid (rw_made R8.out hb hg (hr go100 _ (updR_same _ _ _)))
  have RB := Lib.hid (RA.out.store 10 ro100)
  have RC := Lib.hid (RA.out.row 10)
  clear hb hg hr R8
  simp only [List.drop_succ_cons, List.drop_zero, Act.put, List.setIfInBounds_toArray, List.set_cons_zero, List.set_cons_succ]
  go_upto_region 10 with (with_reducible refine wpList_store_row rfl 94 (.tmp 11) (.tmp 47) rfl go100 ro100 rfl rfl 94 #[.int .u64 0, .int .u64 0, .int .u64 0, .int .u64 0, .int .u64 0] RC.out Io100.out Lo100.out Oo100.out ?_)
  simp only [Act.put]
  clear RA RC
  have R9 := Lib.hid (show Rw w [(ga, ra, 94), (gR, #[.int .u64 0, .int .u64 0, .int .u64 0, .int .u64 0, .int .u64 0], 94), (gp2, rp2, 94), (gp9, rp9, 94), (gp11, rp11, 94), (go5, ro5, 94), (go10, ro10, 94), (go20, ro20, 94), (go40, ro40, 94), (go50, ro50, 94), (go100, ro100, 94)] _ from RB.out)
  clear RB
  generalize w9.setRow go100 ro100 = W9 at R9 ⊢
  refine wp_region_makes 4 1 (fun _ => (12, .cells #[.int .u64 0, .int .u64 0, .int .u64 0, .int .u64 0, .int .u64 0] 94 (0, 0))) (by kernel_rfl) (by kernel_rfl) (by rfl) ?hmk ?h
  case hmk =>
    intro j h1 h2
    obtain rfl : j = 4 := by omega
    exact ⟨_, rfl, rfl, fun _ => rfl, fun _ _ => by go_simp⟩
  apply Exists.intro
  refine ⟨?_, ?_⟩
  · intro p hp
    have RP := Lib.hid (R9.out.on hp)
    simp only [List.take_succ_cons, List.take_zero]
    go_big_quiet_want
    refine quiet_load_row 94 (.tmp 11) (by rfl) go100 (by rfl) 94 ro100 (0, 0) _ ?hC1 Tryz.underlying94 rfl Io100.out ?_
    case hC1 => rintro w' ⟨q, rfl⟩; exact (RP.out.on q.2).row 10
    simp only [Act.put, List.setIfInBounds_toArray, List.set_cons_zero, List.set_cons_succ]
    go_big_quiet_on
    go_big_quiet_step (exact calls_below (So200.out _))
    go_big_quiet_want
    refine quiet_load_row 94 (.tmp 11) (by rfl) go100 (by rfl) 94 ro100 (0, 0) _ ?hC2 Tryz.underlying94 rfl Io100.out ?_
    case hC2 => rintro w' ⟨q, rfl⟩; exact (RP.out.on q.2).row 10
    simp only [Act.put, List.setIfInBounds_toArray, List.set_cons_zero, List.set_cons_succ]
    go_big_quiet_on
    go_big_quiet_step (exact calls_below (Mo200.out _))
    exact wpQuiet_nil rfl
  intro go200 hg _ w10 hb hr
  have RA := Lib.hid (rw_made R9.out hb hg (hr go200 _ (updR_same _ _ _)))
  have RB := Lib.hid (RA.out.store 11 ro200)
  have RC := Lib.hid (RA.out.row 11)
  clear hb hg hr R9
  simp only [List.drop_succ_cons, List.drop_zero, Act.put, List.setIfInBounds_toArray, List.set_cons_zero, List.set_cons_succ]
  go_upto_region 11 with (with_reducible refine wpList_store_row rfl 94 (.tmp 12) (.tmp 51) rfl go200 ro200 rfl rfl 94 #[.int .u64 0, .int .u64 0, .int .u64 0, .int .u64 0, .int .u64 0] RC.out Io200.out Lo200.out Oo200.out ?_)
  simp only [Act.put]
  clear RA RC
  have R10 := Lib.hid (show Rw w [(ga, ra, 94), (gR, #[.int .u64 0, .int .u64 0, .int .u64 0, .int .u64 0, .int .u64 0], 94), (gp2, rp2, 94), (gp9, rp9, 94), (gp11, rp11, 94), (go5, ro5, 94), (go10, ro10, 94), (go20, ro20, 94), (go40, ro40, 94), (go50, ro50, 94), (go100, ro100, 94), (go200, ro200, 94)] _ from RB.out)
  clear RB
  generalize w10.setRow go200 ro200 = W10 at R10 ⊢
  refine wp_region_makes 4 1 (fun _ => (13, .cells #[.int .u64 0, .int .u64 0, .int .u64 0, .int .u64 0, .int .u64 0] 94 (0, 0))) (by kernel_rfl) (by kernel_rfl) (by rfl) ?hmk ?h
  case hmk =>
    intro j h1 h2
    obtain rfl : j = 4 := by omega
    exact ⟨_, rfl, rfl, fun _ => rfl, fun _ _ => by go_simp⟩
  apply Exists.intro
  refine ⟨?_, ?_⟩
  · intro p hp
    have RP := Lib.hid (R10.out.on hp)
    simp only [List.take_succ_cons, List.take_zero]
    go_big_quiet_want
    refine quiet_load_row 94 (.tmp 12) (by rfl) go200 (by rfl) 94 ro200 (0, 0) _ ?hC1 Tryz.underlying94 rfl Io200.out ?_
    case hC1 => rintro w' ⟨q, rfl⟩; exact (RP.out.on q.2).row 11
    simp only [Act.put, List.setIfInBounds_toArray, List.set_cons_zero, List.set_cons_succ]
    go_big_quiet_on
    go_big_quiet_step (exact calls_below (So250.out _))
    go_big_quiet_want
    refine quiet_load_row 94 (.tmp 10) (by rfl) go50 (by rfl) 94 ro50 (0, 0) _ ?hC2 Tryz.underlying94 rfl Io50.out ?_
    case hC2 => rintro w' ⟨q, rfl⟩; exact (RP.out.on q.2).row 9
    simp only [Act.put, List.setIfInBounds_toArray, List.set_cons_zero, List.set_cons_succ]
    go_big_quiet_on
    go_big_quiet_step (exact calls_below (Mo250.out _))
    exact wpQuiet_nil rfl
  intro go250 hg _ w11 hb hr
  have RA := Lib.hid (rw_made R10.out hb hg (hr go250 _ (updR_same _ _ _)))
  have RB := Lib.hid (RA.out.store 12 ro250)
  have RC := Lib.hid (RA.out.row 12)
  clear hb hg hr R10
  simp only [List.drop_succ_cons, List.drop_zero, Act.put, List.setIfInBounds_toArray, List.set_cons_zero, List.set_cons_succ]
  go_upto_region 12 with (with_reducible refine wpList_store_row rfl 94 (.tmp 13) (.tmp 55) rfl go250 ro250 rfl rfl 94 #[.int .u64 0, .int .u64 0, .int .u64 0, .int .u64 0, .int .u64 0] RC.out Io250.out Lo250.out Oo250.out ?_)
  simp only [Act.put]
  clear RA RC
  have R11 := Lib.hid (show Rw w [(ga, ra, 94), (gR, #[.int .u64 0, .int .u64 0, .int .u64 0, .int .u64 0, .int .u64 0], 94), (gp2, rp2, 94), (gp9, rp9, 94), (gp11, rp11, 94), (go5, ro5, 94), (go10, ro10, 94), (go20, ro20, 94), (go40, ro40, 94), (go50, ro50, 94), (go100, ro100, 94), (go200, ro200, 94), (go250, ro250, 94)] _ from RB.out)
  clear RB
  generalize w11.setRow go250 ro250 = W11 at R11 ⊢
  refine wp_region_below_tail 4 (by kernel_rfl) (by kernel_rfl) ?_
  simp only [List.take_succ_cons, List.take_zero]
  go_big_quiet_want
  refine quiet_load_row 94 (.tmp 13) (by rfl) go250 (by rfl) 94 ro250 (0, 0) _ ?hC1 Tryz.underlying94 rfl Io250.out ?_
  case hC1 => rintro w' ⟨q, rfl⟩; exact (R11.out.on q.2).row 12
  simp only [Act.put, List.setIfInBounds_toArray, List.set_cons_zero, List.set_cons_succ]
  go_big_quiet_on
  go_big_quiet_step (exact calls_below (SR.out _))
  go_big_quiet_want
  refine quiet_load_row 94 (.tmp 5) (by rfl) gp11 (by rfl) 94 rp11 (0, 0) _ ?hC2 Tryz.underlying94 rfl Ip11.out ?_
  case hC2 => rintro w' ⟨q, rfl⟩; exact (R11.out.on q.2).row 4
  simp only [Act.put, List.setIfInBounds_toArray, List.set_cons_zero, List.set_cons_succ]
  go_big_quiet_on
  go_big_quiet_step (exact calls_below (MR.out _))
  refine wpQuiet_nil ?_
  rintro _ ⟨p, rfl⟩
  have RA := Lib.hid (R11.out.on p.2)
  generalize p.1 = wz at RA ⊢
  have RB := Lib.hid (RA.out.store 1 rR)
  have RC := Lib.hid (RA.out.row 1)
  simp only [List.drop_succ_cons, List.drop_zero]
  go_wp2_with (with_reducible refine wpList_store_row rfl 94 (.tmp 2) (.tmp 59) rfl gR rR rfl rfl 94 #[.int .u64 0, .int .u64 0, .int .u64 0, .int .u64 0, .int .u64 0] RC.out IR.out LR.out OR.out ?_)
  exact bodyPost_ret (results_cell_row rfl _ _ gR 94 rR (0, 0) _ rfl (RB.out.row 1) Tryz.underlying94 rfl IR.out) rfl ⟨rfl, RB.out.bel⟩
end Go.Proofs.YtfckjilhkdlpfaaGreatDoor

namespace Go.Proofs.YtfckjilhkdlpfaaGreatDoor
open Go.RowKit MS
theorem small_ok (n : Nat) (h : n < 18446744073709551616) : (⟨n, 0, 0, 0, 0⟩ : N5).ok := ⟨h, by show 0 < _; decide, by show 0 < _; decide, by show 0 < _; decide, by show 0 < _; decide⟩
end Go.Proofs.YtfckjilhkdlpfaaGreatDoor

namespace Go.Proofs.YtfckjilhkdlpfaaGreatDoor
open Go.RowKit MS
section
variable {P : Program} {ops : Array Oper} {Q : Exit → Act → World → Prop}
theorem wpOp_store {i : Nat} {o : Oper} {K : Act → World → Prop} {a : Act} {w : World} (hi : ops[i]? = some o) (hgd : o.guard = none) (hd : o.dst = none) (ty : TypeId) (x y : Operand) (ho : o.op = .store ty x y)
    (g : Nat) (cells : Array Value) (hx : a.eval x = .pointer (some ⟨g, 0, none⟩)) (hy : a.eval y = .agg cells) (t : TypeId) (old : Array Value) (hg : w.heap[g]? = some (.cells old t (0, 0))) (hin : (P.info? ty).map (·.size) = some cells.size)
    (hold : old.size = cells.size) (h1 : cells.all (·.oneCell') = true) (h : K a (w.setRow g cells)) : wpOp P ops Q i K a w := by
  unfold wpOp
  simp only [hi]
  rw [if_pos (by simp [Region.wanted, hgd])]
  refine .inl (wp_store_row ty x y ho g cells hx hy t old hg hin hold h1 ?_)
  rw [hd]
  exact h

theorem region_two {id : Nat} {a : Act} {w : World} {o0 o1 o2 o3 : Oper} {d0 d1 x0 x1 y0 y1 b0 b1 g0 g1 ty : Nat} {A B C D : Array Value} {de : TypeDesc} (hm : P.follows .mixedOrders = true) (hsz : ops.size = 4)
    (h0 : ops[0]? = some o0) (h1 : ops[1]? = some o1) (h2 : ops[2]? = some o2) (h3 : ops[3]? = some o3) (k0 : o0.guard = none) (k1 : o1.guard = none) (k2 : o2.guard = none) (k3 : o3.guard = none)
    (e0 : o0.dst = some d0) (e1 : o1.dst = some d1) (e2 : o2.dst = none) (e3 : o3.dst = none)
    (p0 : o0.op = .load ty (.tmp x0)) (p1 : o1.op = .load ty (.tmp x1)) (p2 : o2.op = .store ty (.tmp y0) (.tmp d0)) (p3 : o3.op = .store ty (.tmp y1) (.tmp d1))
    (hs : Region.noSelect ops = true) (f0 : Region.free .any ops #[false, false, false, false] 0 = true) (c0 : (Region.ready .any ops #[false, false, false, false]).contains 0 = true)
    (f1 : Region.free .any ops #[true, false, false, false] 1 = true) (c1 : (Region.ready .any ops #[true, false, false, false]).contains 1 = true)
    (r2 : Region.ready .any ops #[true, true, false, false] = [2]) (r3 : Region.ready .any ops #[true, true, true, false] = [3]) (r4 : Region.ready .any ops #[true, true, true, true] = [])
    (hne : d0 ≠ x1 ∧ d0 ≠ y0 ∧ d0 ≠ y1 ∧ d1 ≠ y0 ∧ d1 ≠ y1 ∧ d1 ≠ d0) (hd0 : d0 < a.tmps.size) (hd1 : d1 < a.tmps.size)
    (v0 : a.eval (.tmp x0) = .pointer (some ⟨b0, 0, none⟩)) (v1 : a.eval (.tmp x1) = .pointer (some ⟨b1, 0, none⟩)) (v2 : a.eval (.tmp y0) = .pointer (some ⟨g0, 0, none⟩)) (v3 : a.eval (.tmp y1) = .pointer (some ⟨g1, 0, none⟩))
    (w0 : w.heap[b0]? = some (.cells A ty (0, 0))) (w1 : w.heap[b1]? = some (.cells B ty (0, 0))) (w2 : w.heap[g0]? = some (.cells C ty (0, 0))) (w3 : w.heap[g1]? = some (.cells D ty (0, 0)))
    (n00 : b0 ≠ g0) (n01 : b0 ≠ g1) (n10 : b1 ≠ g0) (n11 : b1 ≠ g1) (ng : g1 ≠ g0) (hu : P.underlying ty = some de) (hrow : (match de with | .struct _ | .array _ _ => true | _ => false) = true)
    (iA : (P.info? ty).map (·.size) = some A.size) (iB : (P.info? ty).map (·.size) = some B.size) (sC : C.size = A.size) (sD : D.size = B.size) (oA : A.all (·.oneCell') = true) (oB : B.all (·.oneCell') = true)
    (hQ : ∀ c (a : Act) (d : Nat) v w, Q (.panic c) (a.put (some d) v) w → Q (.panic c) a w) (hK : Q .normal ((a.put (some d0) (.agg A)).put (some d1) (.agg B)) ((w.drew.setRow g0 A).setRow g1 B)) : (Code.region id ops true).wp P Q a w := by
  obtain ⟨m1, m2, m3, m4, m5, m6⟩ := hne
  refine wp_region_held (S := fun w' => w'.heap[b0]? = some (.cells A ty (0, 0)) ∧ w'.heap[b1]? = some (.cells B ty (0, 0))) hm ?_
  rw [hsz]
  change wpAnyH P .any ops Q _ 4 #[false, false, false, false] a w.drew
  have sz : ∀ (a : Act) d v, (a.put d v).tmps.size = a.tmps.size := fun a d v => by cases d <;> simp [Act.put]
  have wn : ∀ (o : Oper) (a : Act), o.guard = none → Region.wanted o (yielded ops a.tmps) = true := fun o a h => by simp [Region.wanted, h]
  have l0 : ∀ w' : World, (w'.heap[b0]? = some (.cells A ty (0, 0)) ∧ w'.heap[b1]? = some (.cells B ty (0, 0))) → (execOp a.eval o0).run P w' = .ok (.value (.agg A)) w' := fun w' h => run_load_row ty (.tmp x0) p0 b0 v0 ty A (0, 0) de h.1 hu hrow iA
  refine wpAnyH_take (i := 0) (v := .agg A) h0 hs f0 c0 (fun c a w h => by rw [e0] at h; exact hQ c a _ _ w h) (Or.inl ⟨wn _ _ k0, l0⟩) ⟨w0, w1⟩ ?_
  rw [e0]
  change wpAnyH P .any ops Q _ 3 #[true, false, false, false] (a.put (some d0) (.agg A)) w.drew
  have l1 : ∀ w' : World, (w'.heap[b0]? = some (.cells A ty (0, 0)) ∧ w'.heap[b1]? = some (.cells B ty (0, 0))) → (execOp (a.put (some d0) (.agg A)).eval o1).run P w' = .ok (.value (.agg B)) w' := fun w' h => run_load_row ty (.tmp x1) p1 b1 (by rw [Act.eval_put_ne _ _ _ _ m1]; exact v1) ty B (0, 0) de h.2 hu hrow iB
  refine wpAnyH_take (i := 1) (v := .agg B) h1 hs f1 c1 (fun c a w h => by rw [e1] at h; exact hQ c a _ _ w h) (Or.inl ⟨wn _ _ k1, l1⟩) ⟨w0, w1⟩ ?_
  rw [e1]
  change wpAnyH P .any ops Q _ 2 #[true, true, false, false] ((a.put (some d0) (.agg A)).put (some d1) (.agg B)) w.drew
  have oth : ∀ (w' : World) (g k : Nat) (cs : Array Value), k ≠ g → (w'.setRow g cs).heap[k]? = w'.heap[k]? := fun w' g k cs h => setRow_other _ _ _ _ h
  refine wpAnyH_all r2 (by simp) (List.forall_mem_singleton.2 ?_)
  refine wpOp_store h2 k2 e2 ty (.tmp y0) (.tmp d0) p2 g0 A (by rw [Act.eval_put_ne _ _ _ _ m4, Act.eval_put_ne _ _ _ _ m2]; exact v2) (by rw [Act.eval_put_ne _ _ _ _ m6]; exact Act.eval_put_same _ _ _ hd0) ty C w2 iA sC oA ?_
  refine ⟨⟨by rw [oth _ _ _ _ n00]; exact w0, by rw [oth _ _ _ _ n10]; exact w1⟩, ?_⟩
  change wpAnyH P .any ops Q _ 1 #[true, true, true, false] _ _
  refine wpAnyH_all r3 (by simp) (List.forall_mem_singleton.2 ?_)
  refine wpOp_store h3 k3 e3 ty (.tmp y1) (.tmp d1) p3 g1 B (by rw [Act.eval_put_ne _ _ _ _ m5, Act.eval_put_ne _ _ _ _ m3]; exact v3) (Act.eval_put_same _ _ _ (by rw [sz]; exact hd1)) ty D (by rw [oth _ _ _ _ ng]; exact w3) iB sD oB ?_
  refine ⟨⟨by rw [oth _ _ _ _ n01, oth _ _ _ _ n00]; exact w0, by rw [oth _ _ _ _ n11, oth _ _ _ _ n10]; exact w1⟩, ?_⟩
  exact wpAnyH_done r4 hK _
end
end Go.Proofs.YtfckjilhkdlpfaaGreatDoor

namespace Go.Proofs.YtfckjilhkdlpfaaGreatDoor
open Go.RowKit MS
section
variable {P : Program}
/-- One variable made. -/
theorem wp_region_makes1 {id : Nat} {Q : Exit → Act → World → Prop} {a : Act} {w : World} {l : List Oper} (n d : Nat) (ob : Obj) (hm : P.follows .mixedOrders = true) (hB : Region.lexTailB .any l.toArray (n + 1) = true)
    (hd : dstB a.tmps.size (l.take n) = true) (hmk : Maker P l.toArray n d ob)
    (h : ∃ A, (∀ p, Below w.heap.size w p → wpQuiet P l.toArray (fun w' => ∃ q : BW p, w' = q.1) (fun a' => a' = A) (l.take n) a) ∧
      ∀ g w', w.heap.size ≤ g → Below w.heap.size w w' → w'.heap[g]? = some ob → wpList P l.toArray Q (l.drop (n + 1)) (A.put (some d) (.pointer (some ⟨g, 0, none⟩))) w') : (Code.region id l.toArray true).wp P Q a w := by
  obtain ⟨A, hq, ht⟩ := h
  refine wp_region_makes n 1 (fun _ => (d, ob)) hm hB hd (fun j h1 h2 => ?_) ⟨A, hq, ?_⟩
  · obtain rfl : j = n := by omega
    exact hmk
  · intro g hg _ w' hb hr
    exact ht g w' hg hb (hr g _ (updR_same _ _ _))
/-- Two variables made. -/
theorem wp_region_makes2 {id : Nat} {Q : Exit → Act → World → Prop} {a : Act} {w : World} {l : List Oper} (n d1 d2 : Nat) (ob1 ob2 : Obj) (hm : P.follows .mixedOrders = true) (hB : Region.lexTailB .any l.toArray (n + 2) = true)
    (hd : dstB a.tmps.size (l.take n) = true) (hmk1 : Maker P l.toArray n d1 ob1) (hmk2 : Maker P l.toArray (n + 1) d2 ob2)
    (h : ∃ A, (∀ p, Below w.heap.size w p → wpQuiet P l.toArray (fun w' => ∃ q : BW p, w' = q.1) (fun a' => a' = A) (l.take n) a) ∧
      ∀ g1 g2 w', w.heap.size ≤ g1 → w.heap.size ≤ g2 → g1 ≠ g2 → Below w.heap.size w w' → w'.heap[g1]? = some ob1 → w'.heap[g2]? = some ob2 →
        wpList P l.toArray Q (l.drop (n + 2)) ((A.put (some d1) (.pointer (some ⟨g1, 0, none⟩))).put (some d2) (.pointer (some ⟨g2, 0, none⟩))) w') : (Code.region id l.toArray true).wp P Q a w := by
  obtain ⟨A, hq, ht⟩ := h
  refine wp_region_makes n 2 (fun j => if j = n then (d1, ob1) else (d2, ob2)) hm hB hd (fun j h1 h2 => ?_) ⟨A, hq, ?_⟩
  · by_cases e : j = n
    · subst e
      rw [if_pos rfl]
      exact hmk1
    · obtain rfl : j = n + 1 := by omega
      rw [if_neg e]
      exact hmk2
  · have mk1 : (fun j => if j = n then (d1, ob1) else (d2, ob2)) n = (d1, ob1) := if_pos rfl
    have mk2 : (fun j => if j = n then (d1, ob1) else (d2, ob2)) (n + 1) = (d2, ob2) := if_neg (by omega : ¬ n + 1 = n)
    intro g1 hg1 _ g2 hg2 hn w' hb hr
    rw [mk1] at hn hr
    rw [mk2] at hr
    have hne : g1 ≠ g2 := fun e => by
      rw [← e, updR_same] at hn
      cases hn
    rw [mk1, mk2]
    exact ht g1 g2 w' hg1 hg2 hne hb (hr g1 _ (by rw [updR_ne _ _ hne, updR_same])) (hr g2 _ (updR_same _ _ _))
theorem quiet_run {C : World → Prop} {K : Act → Prop} {a : Act} {o : Oper} {v : Value} (h : ∀ w, C w → (execOp a.eval o).run P w = .ok (.value v) w) (hK : K (a.put o.dst v)) : o.quiet P a C K :=
  ⟨v, fun w hw => by unfold Oper.quietAt; rw [h w hw]; exact ⟨rfl, rfl⟩, hK⟩
theorem run_load_mid {ρ : Operand → Value} {op : Oper} {w : World} (ty : TypeId) (x : Operand) (ho : op.op = .load ty x) (b o : Nat) (hx : ρ x = .pointer (some ⟨b, o, none⟩)) (cs : List Value) (d : TypeDesc) (hc : w.rangeAt b o cs)
    (hu : P.underlying ty = some d) (hd : d.isRow = true) (hi : (P.info? ty).map (·.size) = some cs.length) : (execOp ρ op).run P w = .ok (.value (.agg cs.toArray)) w := by
  unfold execOp
  simp only [ho, hx, Sem.run_bind, run_loadAt_mid w b o ty cs d hc hu hd hi, Result.andThen_ok, Sem.run_pure]
end
/-- The cells of a pair of numbers. -/
def pvA (x z : N5) : Array Value := #[.int .u64 (x.a : Int), .int .u64 (x.b : Int), .int .u64 (x.c : Int), .int .u64 (x.d : Int), .int .u64 (x.e : Int), .int .u64 (z.a : Int), .int .u64 (z.b : Int), .int .u64 (z.c : Int), .int .u64 (z.d : Int), .int .u64 (z.e : Int)]
theorem infoP (x z : N5) : (Tryz.prog.info? 98).map (·.size) = some (pvA x z).size := by
  show (Tryz.prog.info? 98).map (·.size) = some 10
  kernel_rfl
theorem one_pvA (x z : N5) : (pvA x z).all (·.oneCell') = true := by simp [pvA, Value.oneCell']
theorem pair_x {w : World} {g : Nat} {x z : N5} {T : Nat} (hb : w.heap[g]? = some (.cells (pvA x z) T (0, 0))) : w.rangeAt g 0 (nvA x).toList := World.rangeAt_of_block hb 0 5
theorem pair_z {w : World} {g : Nat} {x z : N5} {T : Nat} (hb : w.heap[g]? = some (.cells (pvA x z) T (0, 0))) : w.rangeAt g 5 (nvA z).toList := World.rangeAt_of_block hb 5 5
theorem infoL (x : N5) : (Tryz.prog.info? 94).map (·.size) = some (nvA x).toList.length := infoV x
theorem run_x {ρ : Operand → Value} {op : Oper} {w : World} {g : Nat} {x z : N5} {T : Nat} (y : Operand) (ho : op.op = .load 94 y) (hx : ρ y = .pointer (some ⟨g, 0, none⟩)) (hb : w.heap[g]? = some (.cells (pvA x z) T (0, 0))) :
    (execOp ρ op).run Tryz.prog w = .ok (.value (.agg (nvA x))) w := run_load_mid 94 y ho g 0 hx (nvA x).toList _ (pair_x hb) Tryz.underlying94 rfl (infoL x)
theorem run_z {ρ : Operand → Value} {op : Oper} {w : World} {g : Nat} {x z : N5} {T : Nat} (y : Operand) (ho : op.op = .load 94 y) (hx : ρ y = .pointer (some ⟨g, 5, none⟩)) (hb : w.heap[g]? = some (.cells (pvA x z) T (0, 0))) :
    (execOp ρ op).run Tryz.prog w = .ok (.value (.agg (nvA z))) w := run_load_mid 94 y ho g 5 hx (nvA z).toList _ (pair_z hb) Tryz.underlying94 rfl (infoL z)
theorem run_pair {ρ : Operand → Value} {op : Oper} {w : World} {x z : N5} (p q : Operand) (ho : op.op = .build 98 #[(0, p), (1, q)]) (hp : ρ p = .agg (nvA x)) (hq : ρ q = .agg (nvA z)) :
    (execOp ρ op).run Tryz.prog w = .ok (.value (.agg (pvA x z))) w := by
  unfold execOp
  simp only [ho, List.map_toArray, List.map_cons, List.map_nil, hp, hq]
  unfold nvA pvA
  go_simp
theorem rw_made2 {w0 w w' : World} {l : List Blk} (h : Rw w0 l w) {g k : Nat} {cs ds : Array Value} {T S : TypeId} (hb : Below w.heap.size w w') (hg : w.heap.size ≤ g) (hk : w.heap.size ≤ k) (hne : g ≠ k) (hr : w'.heap[g]? = some (.cells cs T (0, 0))) (hs : w'.heap[k]? = some (.cells ds S (0, 0))) : Rw w0 (l ++ [(g, cs, T)] ++ [(k, ds, S)]) w' := by
  refine rw_add (rw_made h hb hg hr) (fun r hr' => ?_) (Nat.le_trans h.bel.size hk) hs
  rcases List.mem_append.1 hr' with h1 | h1
  · have := h.lt r h1
    omega
  · rw [List.mem_singleton.1 h1]
    exact hne

/-- What step makes: the double, and the sum. -/
def dblX (px pz : N5) : N5 := mul (mul (add px pz) (add px pz)) (mul (sub px pz) (sub px pz))
def dblE (px pz : N5) : N5 := sub (mul (add px pz) (add px pz)) (mul (sub px pz) (sub px pz))
def dblZ (px pz : N5) : N5 := mul (dblE px pz) (add (mul (add px pz) (add px pz)) (mul (dblE px pz) ⟨121665, 0, 0, 0, 0⟩))
def dda (px pz qx qz : N5) : N5 := mul (sub qx qz) (add px pz)
def dcb (px pz qx qz : N5) : N5 := mul (add qx qz) (sub px pz)
def addX (px pz qx qz : N5) : N5 := mul (add (dda px pz qx qz) (dcb px pz qx qz)) (add (dda px pz qx qz) (dcb px pz qx qz))
def addZ (u px pz qx qz : N5) : N5 := mul u (mul (sub (dda px pz qx qz) (dcb px pz qx qz)) (sub (dda px pz qx qz) (dcb px pz qx qz)))

set_option maxRecDepth 1000000 in
set_option maxHeartbeats 8000000 in
theorem step_any (u px pz qx qz : N5) (hu : u.ok) (hpx : px.ok) (hpz : pz.ok) (hqx : qx.ok) (hqz : qz.ok) (w : World) :
    Calls Tryz.prog 70 #[.agg (nvA u), .agg (pvA px pz), .agg (pvA qx qz)] w fun e w' => e = .returned (.tuple #[.agg (pvA (dblX px pz) (dblZ px pz)), .agg (pvA (addX px pz qx qz) (addZ u px pz qx qz))]) ∧ Below w.heap.size w w' := by
  obtain ⟨sum, esum⟩ : ∃ x, x = add px pz := ⟨_, rfl⟩
  have hsum : sum.ok := by rw [esum]; exact add_ok hpx hpz
  obtain ⟨dif, edif⟩ : ∃ x, x = sub px pz := ⟨_, rfl⟩
  have hdif : dif.ok := by rw [edif]; exact sub_ok hpx
  obtain ⟨s2, es2⟩ : ∃ x, x = mul sum sum := ⟨_, rfl⟩
  have hs2 : s2.ok := by rw [es2]; exact mul_ok hsum hsum
  obtain ⟨d2, ed2⟩ : ∃ x, x = mul dif dif := ⟨_, rfl⟩
  have hd2 : d2.ok := by rw [ed2]; exact mul_ok hdif hdif
  obtain ⟨e, ee⟩ : ∃ x, x = sub s2 d2 := ⟨_, rfl⟩
  have he : e.ok := by rw [ee]; exact sub_ok hs2
  obtain ⟨qm, eqm⟩ : ∃ x, x = sub qx qz := ⟨_, rfl⟩
  have hqm : qm.ok := by rw [eqm]; exact sub_ok hqx
  obtain ⟨da, eda⟩ : ∃ x, x = mul qm sum := ⟨_, rfl⟩
  have hda : da.ok := by rw [eda]; exact mul_ok hqm hsum
  obtain ⟨qp, eqp⟩ : ∃ x, x = add qx qz := ⟨_, rfl⟩
  have hqp : qp.ok := by rw [eqp]; exact add_ok hqx hqz
  obtain ⟨cb, ecb⟩ : ∃ x, x = mul qp dif := ⟨_, rfl⟩
  have hcb : cb.ok := by rw [ecb]; exact mul_ok hqp hdif
  obtain ⟨pl, epl⟩ : ∃ x, x = add da cb := ⟨_, rfl⟩
  have hpl : pl.ok := by rw [epl]; exact add_ok hda hcb
  obtain ⟨mi, emi⟩ : ∃ x, x = sub da cb := ⟨_, rfl⟩
  have hmi : mi.ok := by rw [emi]; exact sub_ok hda
  obtain ⟨X, eX⟩ : ∃ x, x = mul s2 d2 := ⟨_, rfl⟩
  have hX : X.ok := by rw [eX]; exact mul_ok hs2 hd2
  obtain ⟨k, ek⟩ : ∃ x, x = mul e ⟨121665, 0, 0, 0, 0⟩ := ⟨_, rfl⟩
  have hk : k.ok := by rw [ek]; exact mul_ok he (small_ok 121665 (by decide))
  obtain ⟨sk, esk⟩ : ∃ x, x = add s2 k := ⟨_, rfl⟩
  have hsk : sk.ok := by rw [esk]; exact add_ok hs2 hk
  obtain ⟨Z, eZ⟩ : ∃ x, x = mul e sk := ⟨_, rfl⟩
  have hZ : Z.ok := by rw [eZ]; exact mul_ok he hsk
  obtain ⟨Pp, ePp⟩ : ∃ x, x = mul pl pl := ⟨_, rfl⟩
  have hPp : Pp.ok := by rw [ePp]; exact mul_ok hpl hpl
  obtain ⟨m2, em2⟩ : ∃ x, x = mul mi mi := ⟨_, rfl⟩
  have hm2 : m2.ok := by rw [em2]; exact mul_ok hmi hmi
  obtain ⟨Rr, eRr⟩ : ∃ x, x = mul u m2 := ⟨_, rfl⟩
  have hRr : Rr.ok := by rw [eRr]; exact mul_ok hu hm2
  have fX : dblX px pz = X := by subst eRr em2 ePp eZ esk ek eX emi epl ecb eqp eda eqm ee ed2 es2 edif esum; rfl
  have fZ : dblZ px pz = Z := by subst eRr em2 ePp eZ esk ek eX emi epl ecb eqp eda eqm ee ed2 es2 edif esum; rfl
  have fP : addX px pz qx qz = Pp := by subst eRr em2 ePp eZ esk ek eX emi epl ecb eqp eda eqm ee ed2 es2 edif esum; rfl
  have fR : addZ u px pz qx qz = Rr := by subst eRr em2 ePp eZ esk ek eX emi epl ecb eqp eda eqm ee ed2 es2 edif esum; rfl
  rw [fX, fZ, fP, fR]
  have Csum := Lib.hid (fun w => feadd_any px pz hpx hpz w)
  rw [← esum] at Csum
  have Cdif := Lib.hid (fun w => fesub_any px pz hpx hpz w)
  rw [← edif] at Cdif
  have Cs2 := Lib.hid (fun w => femul_any sum sum hsum hsum w)
  rw [← es2] at Cs2
  have Cd2 := Lib.hid (fun w => femul_any dif dif hdif hdif w)
  rw [← ed2] at Cd2
  have Ce := Lib.hid (fun w => fesub_any s2 d2 hs2 hd2 w)
  rw [← ee] at Ce
  have Cqm := Lib.hid (fun w => fesub_any qx qz hqx hqz w)
  rw [← eqm] at Cqm
  have Cda := Lib.hid (fun w => femul_any qm sum hqm hsum w)
  rw [← eda] at Cda
  have Cqp := Lib.hid (fun w => feadd_any qx qz hqx hqz w)
  rw [← eqp] at Cqp
  have Ccb := Lib.hid (fun w => femul_any qp dif hqp hdif w)
  rw [← ecb] at Ccb
  have Cpl := Lib.hid (fun w => feadd_any da cb hda hcb w)
  rw [← epl] at Cpl
  have Cmi := Lib.hid (fun w => fesub_any da cb hda hcb w)
  rw [← emi] at Cmi
  have CX := Lib.hid (fun w => femul_any s2 d2 hs2 hd2 w)
  rw [← eX] at CX
  have Ck := Lib.hid (fun w => fesmall_any e 121665 he (by decide) w)
  rw [← ek, show ((121665 : Nat) : Int) = 121665 from rfl] at Ck
  have Csk := Lib.hid (fun w => feadd_any s2 k hs2 hk w)
  rw [← esk] at Csk
  have CZ := Lib.hid (fun w => femul_any e sk he hsk w)
  rw [← eZ] at CZ
  have CPp := Lib.hid (fun w => femul_any pl pl hpl hpl w)
  rw [← ePp] at CPp
  have Cm2 := Lib.hid (fun w => femul_any mi mi hmi hmi w)
  rw [← em2] at Cm2
  have CRr := Lib.hid (fun w => femul_any u m2 hu hm2 w)
  rw [← eRr] at CRr
  have R0 := Lib.hid (show Rw w [(w.heap.size, nvA u, 94), (w.heap.size + 1, pvA px pz, 98), (w.heap.size + 1 + 1, pvA qx qz, 98), (w.heap.size + 1 + 1 + 1, #[.int .u64 0, .int .u64 0, .int .u64 0, .int .u64 0, .int .u64 0, .int .u64 0, .int .u64 0, .int .u64 0, .int .u64 0, .int .u64 0], 98), (w.heap.size + 1 + 1 + 1 + 1, #[.int .u64 0, .int .u64 0, .int .u64 0, .int .u64 0, .int .u64 0, .int .u64 0, .int .u64 0, .int .u64 0, .int .u64 0, .int .u64 0], 98)] (((((w.alloc (.cells (nvA u) 94 (0, 0))).alloc (.cells (pvA px pz) 98 (0, 0))).alloc (.cells (pvA qx qz) 98 (0, 0))).alloc (.cells #[.int .u64 0, .int .u64 0, .int .u64 0, .int .u64 0, .int .u64 0, .int .u64 0, .int .u64 0, .int .u64 0, .int .u64 0, .int .u64 0] 98 (0, 0))).alloc (.cells #[.int .u64 0, .int .u64 0, .int .u64 0, .int .u64 0, .int .u64 0, .int .u64 0, .int .u64 0, .int .u64 0, .int .u64 0, .int .u64 0] 98 (0, 0))) from by
    have := (((((Rw.nil w).alloc (nvA u) 94).alloc (pvA px pz) 98).alloc (pvA qx qz) 98).alloc #[.int .u64 0, .int .u64 0, .int .u64 0, .int .u64 0, .int .u64 0, .int .u64 0, .int .u64 0, .int .u64 0, .int .u64 0, .int .u64 0] 98).alloc #[.int .u64 0, .int .u64 0, .int .u64 0, .int .u64 0, .int .u64 0, .int .u64 0, .int .u64 0, .int .u64 0, .int .u64 0, .int .u64 0] 98
    simp only [World.size_alloc] at this
    exact this)
  clear fX fZ fP fR esum edif es2 ed2 ee eqm eda eqp ecb epl emi eX ek esk eZ ePp em2 eRr hsum hdif hs2 hd2 he hqm hda hqp hcb hpl hmi hX hk hsk hZ hPp hm2 hRr hu hpx hpz hqx hqz
  go_enter Tryz.func70, Tryz.ntmps70
  go_upto_region 1 with fail
  generalize ((((w.alloc (.cells (nvA u) 94 (0, 0))).alloc (.cells (pvA px pz) 98 (0, 0))).alloc (.cells (pvA qx qz) 98 (0, 0))).alloc (.cells #[.int .u64 0, .int .u64 0, .int .u64 0, .int .u64 0, .int .u64 0, .int .u64 0, .int .u64 0, .int .u64 0, .int .u64 0, .int .u64 0] 98 (0, 0))).alloc (.cells #[.int .u64 0, .int .u64 0, .int .u64 0, .int .u64 0, .int .u64 0, .int .u64 0, .int .u64 0, .int .u64 0, .int .u64 0, .int .u64 0] 98 (0, 0)) = W0 at R0 ⊢
  generalize w.heap.size + 1 + 1 + 1 + 1 = g7 at *
  generalize w.heap.size + 1 + 1 + 1 = g6 at *
  generalize w.heap.size + 1 + 1 = g5 at *
  generalize w.heap.size + 1 = g4 at *
  generalize w.heap.size = g3 at R0 ⊢
  refine wp_region_makes2 10 8 9 (.cells #[.int .u64 0, .int .u64 0, .int .u64 0, .int .u64 0, .int .u64 0] 94 (0, 0)) (.cells #[.int .u64 0, .int .u64 0, .int .u64 0, .int .u64 0, .int .u64 0] 94 (0, 0)) (by kernel_rfl) (by kernel_rfl) (by rfl) ⟨_, rfl, rfl, fun _ => rfl, fun _ _ => by go_simp⟩ ⟨_, rfl, rfl, fun _ => rfl, fun _ _ => by go_simp⟩ ?_
  apply Exists.intro
  refine ⟨?_, ?_⟩
  · intro p hp
    have RP := Lib.hid (R0.out.on hp)
    simp only [List.take_succ_cons, List.take_zero]
    go_big_quiet_step (fail)
    go_big_quiet_want
    refine quiet_run (v := .agg (nvA px)) ?_ ?_
    · rintro w' ⟨q, rfl⟩
      exact run_x (.tmp 19) (by rfl) (by rfl) ((RP.out.on q.2).row 1)
    simp only [Act.put, List.setIfInBounds_toArray, List.set_cons_zero, List.set_cons_succ]
    go_big_quiet_on
    go_big_quiet_step (fail)
    go_big_quiet_want
    refine quiet_run (v := .agg (nvA pz)) ?_ ?_
    · rintro w' ⟨q, rfl⟩
      exact run_z (.tmp 21) (by rfl) (by rfl) ((RP.out.on q.2).row 1)
    simp only [Act.put, List.setIfInBounds_toArray, List.set_cons_zero, List.set_cons_succ]
    go_big_quiet_on
    go_big_quiet_step (exact calls_below (Csum.out _))
    go_big_quiet_step (fail)
    go_big_quiet_want
    refine quiet_run (v := .agg (nvA px)) ?_ ?_
    · rintro w' ⟨q, rfl⟩
      exact run_x (.tmp 24) (by rfl) (by rfl) ((RP.out.on q.2).row 1)
    simp only [Act.put, List.setIfInBounds_toArray, List.set_cons_zero, List.set_cons_succ]
    go_big_quiet_on
    go_big_quiet_step (fail)
    go_big_quiet_want
    refine quiet_run (v := .agg (nvA pz)) ?_ ?_
    · rintro w' ⟨q, rfl⟩
      exact run_z (.tmp 26) (by rfl) (by rfl) ((RP.out.on q.2).row 1)
    simp only [Act.put, List.setIfInBounds_toArray, List.set_cons_zero, List.set_cons_succ]
    go_big_quiet_on
    go_big_quiet_step (exact calls_below (Cdif.out _))
    exact wpQuiet_nil rfl
  intro b8 b9 w1 hg hg2 hne hb hr hr2
  have RA := Lib.hid (show Rw w [(g3, nvA u, 94), (g4, pvA px pz, 98), (g5, pvA qx qz, 98), (g6, #[.int .u64 0, .int .u64 0, .int .u64 0, .int .u64 0, .int .u64 0, .int .u64 0, .int .u64 0, .int .u64 0, .int .u64 0, .int .u64 0], 98), (g7, #[.int .u64 0, .int .u64 0, .int .u64 0, .int .u64 0, .int .u64 0, .int .u64 0, .int .u64 0, .int .u64 0, .int .u64 0, .int .u64 0], 98), (b8, #[.int .u64 0, .int .u64 0, .int .u64 0, .int .u64 0, .int .u64 0], 94), (b9, #[.int .u64 0, .int .u64 0, .int .u64 0, .int .u64 0, .int .u64 0], 94)] w1 from rw_made2 R0.out hb hg hg2 hne hr hr2)
  have RB := Lib.hid (RA.out.store 5 (nvA sum))
  have RC := Lib.hid (RA.out.row 5)
  have RD := Lib.hid (RB.out.row 6)
  have RE := Lib.hid (RB.out.store 6 (nvA dif))
  have R1 := Lib.hid (show Rw w [(g3, nvA u, 94), (g4, pvA px pz, 98), (g5, pvA qx qz, 98), (g6, #[.int .u64 0, .int .u64 0, .int .u64 0, .int .u64 0, .int .u64 0, .int .u64 0, .int .u64 0, .int .u64 0, .int .u64 0, .int .u64 0], 98), (g7, #[.int .u64 0, .int .u64 0, .int .u64 0, .int .u64 0, .int .u64 0, .int .u64 0, .int .u64 0, .int .u64 0, .int .u64 0, .int .u64 0], 98), (b8, nvA sum, 94), (b9, nvA dif, 94)] _ from RE.out)
  clear hb hg hr hg2 hr2 hne R0 RA RB RE
  simp only [List.drop_succ_cons, List.drop_zero, Act.put, List.setIfInBounds_toArray, List.set_cons_zero, List.set_cons_succ]
  go_upto_region 2 with (first
    | (with_reducible refine wpList_store_row rfl 94 (.tmp 8) (.tmp 23) rfl b8 (nvA sum) rfl rfl 94 #[.int .u64 0, .int .u64 0, .int .u64 0, .int .u64 0, .int .u64 0] RC.out (infoV sum) rfl (one_nvA sum) ?_)
    | (with_reducible refine wpList_store_row rfl 94 (.tmp 9) (.tmp 28) rfl b9 (nvA dif) rfl rfl 94 #[.int .u64 0, .int .u64 0, .int .u64 0, .int .u64 0, .int .u64 0] RD.out (infoV dif) rfl (one_nvA dif) ?_))
  simp only [Act.put]
  clear RC RD
  generalize (w1.setRow b8 (nvA sum)).setRow b9 (nvA dif) = W1 at R1 ⊢
  refine wp_region_makes2 6 10 11 (.cells #[.int .u64 0, .int .u64 0, .int .u64 0, .int .u64 0, .int .u64 0] 94 (0, 0)) (.cells #[.int .u64 0, .int .u64 0, .int .u64 0, .int .u64 0, .int .u64 0] 94 (0, 0)) (by kernel_rfl) (by kernel_rfl) (by rfl) ⟨_, rfl, rfl, fun _ => rfl, fun _ _ => by go_simp⟩ ⟨_, rfl, rfl, fun _ => rfl, fun _ _ => by go_simp⟩ ?_
  apply Exists.intro
  refine ⟨?_, ?_⟩
  · intro p hp
    have RP := Lib.hid (R1.out.on hp)
    simp only [List.take_succ_cons, List.take_zero]
    go_big_quiet_want
    refine quiet_run (v := .agg (nvA sum)) ?_ ?_
    · rintro w' ⟨q, rfl⟩
      exact run_load_row 94 (.tmp 8) (by rfl) b8 (by rfl) 94 (nvA sum) (0, 0) _ ((RP.out.on q.2).row 5) Tryz.underlying94 rfl (infoV sum)
    simp only [Act.put, List.setIfInBounds_toArray, List.set_cons_zero, List.set_cons_succ]
    go_big_quiet_on
    go_big_quiet_want
    refine quiet_run (v := .agg (nvA sum)) ?_ ?_
    · rintro w' ⟨q, rfl⟩
      exact run_load_row 94 (.tmp 8) (by rfl) b8 (by rfl) 94 (nvA sum) (0, 0) _ ((RP.out.on q.2).row 5) Tryz.underlying94 rfl (infoV sum)
    simp only [Act.put, List.setIfInBounds_toArray, List.set_cons_zero, List.set_cons_succ]
    go_big_quiet_on
    go_big_quiet_step (exact calls_below (Cs2.out _))
    go_big_quiet_want
    refine quiet_run (v := .agg (nvA dif)) ?_ ?_
    · rintro w' ⟨q, rfl⟩
      exact run_load_row 94 (.tmp 9) (by rfl) b9 (by rfl) 94 (nvA dif) (0, 0) _ ((RP.out.on q.2).row 6) Tryz.underlying94 rfl (infoV dif)
    simp only [Act.put, List.setIfInBounds_toArray, List.set_cons_zero, List.set_cons_succ]
    go_big_quiet_on
    go_big_quiet_want
    refine quiet_run (v := .agg (nvA dif)) ?_ ?_
    · rintro w' ⟨q, rfl⟩
      exact run_load_row 94 (.tmp 9) (by rfl) b9 (by rfl) 94 (nvA dif) (0, 0) _ ((RP.out.on q.2).row 6) Tryz.underlying94 rfl (infoV dif)
    simp only [Act.put, List.setIfInBounds_toArray, List.set_cons_zero, List.set_cons_succ]
    go_big_quiet_on
    go_big_quiet_step (exact calls_below (Cd2.out _))
    exact wpQuiet_nil rfl
  intro b10 b11 w2 hg hg2 hne hb hr hr2
  have RA := Lib.hid (show Rw w [(g3, nvA u, 94), (g4, pvA px pz, 98), (g5, pvA qx qz, 98), (g6, #[.int .u64 0, .int .u64 0, .int .u64 0, .int .u64 0, .int .u64 0, .int .u64 0, .int .u64 0, .int .u64 0, .int .u64 0, .int .u64 0], 98), (g7, #[.int .u64 0, .int .u64 0, .int .u64 0, .int .u64 0, .int .u64 0, .int .u64 0, .int .u64 0, .int .u64 0, .int .u64 0, .int .u64 0], 98), (b8, nvA sum, 94), (b9, nvA dif, 94), (b10, #[.int .u64 0, .int .u64 0, .int .u64 0, .int .u64 0, .int .u64 0], 94), (b11, #[.int .u64 0, .int .u64 0, .int .u64 0, .int .u64 0, .int .u64 0], 94)] w2 from rw_made2 R1.out hb hg hg2 hne hr hr2)
  have RB := Lib.hid (RA.out.store 7 (nvA s2))
  have RC := Lib.hid (RA.out.row 7)
  have RD := Lib.hid (RB.out.row 8)
  have RE := Lib.hid (RB.out.store 8 (nvA d2))
  have R2 := Lib.hid (show Rw w [(g3, nvA u, 94), (g4, pvA px pz, 98), (g5, pvA qx qz, 98), (g6, #[.int .u64 0, .int .u64 0, .int .u64 0, .int .u64 0, .int .u64 0, .int .u64 0, .int .u64 0, .int .u64 0, .int .u64 0, .int .u64 0], 98), (g7, #[.int .u64 0, .int .u64 0, .int .u64 0, .int .u64 0, .int .u64 0, .int .u64 0, .int .u64 0, .int .u64 0, .int .u64 0, .int .u64 0], 98), (b8, nvA sum, 94), (b9, nvA dif, 94), (b10, nvA s2, 94), (b11, nvA d2, 94)] _ from RE.out)
  clear hb hg hr hg2 hr2 hne R1 RA RB RE
  simp only [List.drop_succ_cons, List.drop_zero, Act.put, List.setIfInBounds_toArray, List.set_cons_zero, List.set_cons_succ]
  go_upto_region 3 with (first
    | (with_reducible refine wpList_store_row rfl 94 (.tmp 10) (.tmp 31) rfl b10 (nvA s2) rfl rfl 94 #[.int .u64 0, .int .u64 0, .int .u64 0, .int .u64 0, .int .u64 0] RC.out (infoV s2) rfl (one_nvA s2) ?_)
    | (with_reducible refine wpList_store_row rfl 94 (.tmp 11) (.tmp 34) rfl b11 (nvA d2) rfl rfl 94 #[.int .u64 0, .int .u64 0, .int .u64 0, .int .u64 0, .int .u64 0] RD.out (infoV d2) rfl (one_nvA d2) ?_))
  simp only [Act.put]
  clear RC RD
  generalize (w2.setRow b10 (nvA s2)).setRow b11 (nvA d2) = W2 at R2 ⊢
  have RX := Lib.hid (R2.out.row 7)
  have RY := Lib.hid (R2.out.row 8)
  go_wp2_with (first
    | (with_reducible refine wpList_load_row rfl 94 (.tmp 10) rfl b10 rfl 94 (nvA s2) (0, 0) _ RX.out Tryz.underlying94 rfl (infoV s2) ?_)
    | (with_reducible refine wpList_load_row rfl 94 (.tmp 11) rfl b11 rfl 94 (nvA d2) (0, 0) _ RY.out Tryz.underlying94 rfl (infoV d2) ?_))
  refine (Ce.out _).mono ?_
  rintro e w3 ⟨rfl, hb⟩
  have RA := Lib.hid ((R2.out.on hb).alloc #[.int .u64 0, .int .u64 0, .int .u64 0, .int .u64 0, .int .u64 0] 94)
  have RB := Lib.hid (RA.out.store 9 (nvA e))
  have RC := Lib.hid (RA.out.row 9)
  have R3 := Lib.hid (show Rw w [(g3, nvA u, 94), (g4, pvA px pz, 98), (g5, pvA qx qz, 98), (g6, #[.int .u64 0, .int .u64 0, .int .u64 0, .int .u64 0, .int .u64 0, .int .u64 0, .int .u64 0, .int .u64 0, .int .u64 0, .int .u64 0], 98), (g7, #[.int .u64 0, .int .u64 0, .int .u64 0, .int .u64 0, .int .u64 0, .int .u64 0, .int .u64 0, .int .u64 0, .int .u64 0, .int .u64 0], 98), (b8, nvA sum, 94), (b9, nvA dif, 94), (b10, nvA s2, 94), (b11, nvA d2, 94), (w3.heap.size, nvA e, 94)] _ from RB.out)
  clear hb RX RY R2 RA RB
  go_upto_region 4 with (with_reducible refine wpList_store_row rfl 94 (.tmp 12) (.tmp 37) rfl w3.heap.size (nvA e) rfl rfl 94 #[.int .u64 0, .int .u64 0, .int .u64 0, .int .u64 0, .int .u64 0] RC.out (infoV e) rfl (one_nvA e) ?_)
  simp only [Act.put]
  clear RC
  generalize (w3.alloc (.cells #[.int .u64 0, .int .u64 0, .int .u64 0, .int .u64 0, .int .u64 0] 94 (0, 0))).setRow w3.heap.size (nvA e) = W3 at R3 ⊢
  generalize w3.heap.size = b12 at R3 ⊢
  refine wp_region_makes1 7 13 (.cells #[.int .u64 0, .int .u64 0, .int .u64 0, .int .u64 0, .int .u64 0] 94 (0, 0)) (by kernel_rfl) (by kernel_rfl) (by rfl) ⟨_, rfl, rfl, fun _ => rfl, fun _ _ => by go_simp⟩ ?_
  apply Exists.intro
  refine ⟨?_, ?_⟩
  · intro p hp
    have RP := Lib.hid (R3.out.on hp)
    simp only [List.take_succ_cons, List.take_zero]
    go_big_quiet_step (fail)
    go_big_quiet_want
    refine quiet_run (v := .agg (nvA qx)) ?_ ?_
    · rintro w' ⟨q, rfl⟩
      exact run_x (.tmp 38) (by rfl) (by rfl) ((RP.out.on q.2).row 2)
    simp only [Act.put, List.setIfInBounds_toArray, List.set_cons_zero, List.set_cons_succ]
    go_big_quiet_on
    go_big_quiet_step (fail)
    go_big_quiet_want
    refine quiet_run (v := .agg (nvA qz)) ?_ ?_
    · rintro w' ⟨q, rfl⟩
      exact run_z (.tmp 40) (by rfl) (by rfl) ((RP.out.on q.2).row 2)
    simp only [Act.put, List.setIfInBounds_toArray, List.set_cons_zero, List.set_cons_succ]
    go_big_quiet_on
    go_big_quiet_step (exact calls_below (Cqm.out _))
    go_big_quiet_want
    refine quiet_run (v := .agg (nvA sum)) ?_ ?_
    · rintro w' ⟨q, rfl⟩
      exact run_load_row 94 (.tmp 8) (by rfl) b8 (by rfl) 94 (nvA sum) (0, 0) _ ((RP.out.on q.2).row 5) Tryz.underlying94 rfl (infoV sum)
    simp only [Act.put, List.setIfInBounds_toArray, List.set_cons_zero, List.set_cons_succ]
    go_big_quiet_on
    go_big_quiet_step (exact calls_below (Cda.out _))
    exact wpQuiet_nil rfl
  intro b13 w4 hg hb hr
  have RA := Lib.hid (rw_made R3.out hb hg hr)
  have RB := Lib.hid (RA.out.store 10 (nvA da))
  have RC := Lib.hid (RA.out.row 10)
  have R4 := Lib.hid (show Rw w [(g3, nvA u, 94), (g4, pvA px pz, 98), (g5, pvA qx qz, 98), (g6, #[.int .u64 0, .int .u64 0, .int .u64 0, .int .u64 0, .int .u64 0, .int .u64 0, .int .u64 0, .int .u64 0, .int .u64 0, .int .u64 0], 98), (g7, #[.int .u64 0, .int .u64 0, .int .u64 0, .int .u64 0, .int .u64 0, .int .u64 0, .int .u64 0, .int .u64 0, .int .u64 0, .int .u64 0], 98), (b8, nvA sum, 94), (b9, nvA dif, 94), (b10, nvA s2, 94), (b11, nvA d2, 94), (b12, nvA e, 94), (b13, nvA da, 94)] _ from RB.out)
  clear hb hg hr R3 RA RB
  simp only [List.drop_succ_cons, List.drop_zero, Act.put, List.setIfInBounds_toArray, List.set_cons_zero, List.set_cons_succ]
  go_upto_region 5 with (with_reducible refine wpList_store_row rfl 94 (.tmp 13) (.tmp 44) rfl b13 (nvA da) rfl rfl 94 #[.int .u64 0, .int .u64 0, .int .u64 0, .int .u64 0, .int .u64 0] RC.out (infoV da) rfl (one_nvA da) ?_)
  simp only [Act.put]
  clear RC
  generalize w4.setRow b13 (nvA da) = W4 at R4 ⊢
  refine wp_region_makes1 7 14 (.cells #[.int .u64 0, .int .u64 0, .int .u64 0, .int .u64 0, .int .u64 0] 94 (0, 0)) (by kernel_rfl) (by kernel_rfl) (by rfl) ⟨_, rfl, rfl, fun _ => rfl, fun _ _ => by go_simp⟩ ?_
  apply Exists.intro
  refine ⟨?_, ?_⟩
  · intro p hp
    have RP := Lib.hid (R4.out.on hp)
    simp only [List.take_succ_cons, List.take_zero]
    go_big_quiet_step (fail)
    go_big_quiet_want
    refine quiet_run (v := .agg (nvA qx)) ?_ ?_
    · rintro w' ⟨q, rfl⟩
      exact run_x (.tmp 45) (by rfl) (by rfl) ((RP.out.on q.2).row 2)
    simp only [Act.put, List.setIfInBounds_toArray, List.set_cons_zero, List.set_cons_succ]
    go_big_quiet_on
    go_big_quiet_step (fail)
    go_big_quiet_want
    refine quiet_run (v := .agg (nvA qz)) ?_ ?_
    · rintro w' ⟨q, rfl⟩
      exact run_z (.tmp 47) (by rfl) (by rfl) ((RP.out.on q.2).row 2)
    simp only [Act.put, List.setIfInBounds_toArray, List.set_cons_zero, List.set_cons_succ]
    go_big_quiet_on
    go_big_quiet_step (exact calls_below (Cqp.out _))
    go_big_quiet_want
    refine quiet_run (v := .agg (nvA dif)) ?_ ?_
    · rintro w' ⟨q, rfl⟩
      exact run_load_row 94 (.tmp 9) (by rfl) b9 (by rfl) 94 (nvA dif) (0, 0) _ ((RP.out.on q.2).row 6) Tryz.underlying94 rfl (infoV dif)
    simp only [Act.put, List.setIfInBounds_toArray, List.set_cons_zero, List.set_cons_succ]
    go_big_quiet_on
    go_big_quiet_step (exact calls_below (Ccb.out _))
    exact wpQuiet_nil rfl
  intro b14 w5 hg hb hr
  have RA := Lib.hid (rw_made R4.out hb hg hr)
  have RB := Lib.hid (RA.out.store 11 (nvA cb))
  have RC := Lib.hid (RA.out.row 11)
  have R5 := Lib.hid (show Rw w [(g3, nvA u, 94), (g4, pvA px pz, 98), (g5, pvA qx qz, 98), (g6, #[.int .u64 0, .int .u64 0, .int .u64 0, .int .u64 0, .int .u64 0, .int .u64 0, .int .u64 0, .int .u64 0, .int .u64 0, .int .u64 0], 98), (g7, #[.int .u64 0, .int .u64 0, .int .u64 0, .int .u64 0, .int .u64 0, .int .u64 0, .int .u64 0, .int .u64 0, .int .u64 0, .int .u64 0], 98), (b8, nvA sum, 94), (b9, nvA dif, 94), (b10, nvA s2, 94), (b11, nvA d2, 94), (b12, nvA e, 94), (b13, nvA da, 94), (b14, nvA cb, 94)] _ from RB.out)
  clear hb hg hr R4 RA RB
  simp only [List.drop_succ_cons, List.drop_zero, Act.put, List.setIfInBounds_toArray, List.set_cons_zero, List.set_cons_succ]
  go_upto_region 6 with (with_reducible refine wpList_store_row rfl 94 (.tmp 14) (.tmp 51) rfl b14 (nvA cb) rfl rfl 94 #[.int .u64 0, .int .u64 0, .int .u64 0, .int .u64 0, .int .u64 0] RC.out (infoV cb) rfl (one_nvA cb) ?_)
  simp only [Act.put]
  clear RC
  generalize w5.setRow b14 (nvA cb) = W5 at R5 ⊢
  refine wp_region_makes2 6 15 16 (.cells #[.int .u64 0, .int .u64 0, .int .u64 0, .int .u64 0, .int .u64 0] 94 (0, 0)) (.cells #[.int .u64 0, .int .u64 0, .int .u64 0, .int .u64 0, .int .u64 0] 94 (0, 0)) (by kernel_rfl) (by kernel_rfl) (by rfl) ⟨_, rfl, rfl, fun _ => rfl, fun _ _ => by go_simp⟩ ⟨_, rfl, rfl, fun _ => rfl, fun _ _ => by go_simp⟩ ?_
  apply Exists.intro
  refine ⟨?_, ?_⟩
  · intro p hp
    have RP := Lib.hid (R5.out.on hp)
    simp only [List.take_succ_cons, List.take_zero]
    go_big_quiet_want
    refine quiet_run (v := .agg (nvA da)) ?_ ?_
    · rintro w' ⟨q, rfl⟩
      exact run_load_row 94 (.tmp 13) (by rfl) b13 (by rfl) 94 (nvA da) (0, 0) _ ((RP.out.on q.2).row 10) Tryz.underlying94 rfl (infoV da)
    simp only [Act.put, List.setIfInBounds_toArray, List.set_cons_zero, List.set_cons_succ]
    go_big_quiet_on
    go_big_quiet_want
    refine quiet_run (v := .agg (nvA cb)) ?_ ?_
    · rintro w' ⟨q, rfl⟩
      exact run_load_row 94 (.tmp 14) (by rfl) b14 (by rfl) 94 (nvA cb) (0, 0) _ ((RP.out.on q.2).row 11) Tryz.underlying94 rfl (infoV cb)
    simp only [Act.put, List.setIfInBounds_toArray, List.set_cons_zero, List.set_cons_succ]
    go_big_quiet_on
    go_big_quiet_step (exact calls_below (Cpl.out _))
    go_big_quiet_want
    refine quiet_run (v := .agg (nvA da)) ?_ ?_
    · rintro w' ⟨q, rfl⟩
      exact run_load_row 94 (.tmp 13) (by rfl) b13 (by rfl) 94 (nvA da) (0, 0) _ ((RP.out.on q.2).row 10) Tryz.underlying94 rfl (infoV da)
    simp only [Act.put, List.setIfInBounds_toArray, List.set_cons_zero, List.set_cons_succ]
    go_big_quiet_on
    go_big_quiet_want
    refine quiet_run (v := .agg (nvA cb)) ?_ ?_
    · rintro w' ⟨q, rfl⟩
      exact run_load_row 94 (.tmp 14) (by rfl) b14 (by rfl) 94 (nvA cb) (0, 0) _ ((RP.out.on q.2).row 11) Tryz.underlying94 rfl (infoV cb)
    simp only [Act.put, List.setIfInBounds_toArray, List.set_cons_zero, List.set_cons_succ]
    go_big_quiet_on
    go_big_quiet_step (exact calls_below (Cmi.out _))
    exact wpQuiet_nil rfl
  intro b15 b16 w6 hg hg2 hne hb hr hr2
  have RA := Lib.hid (show Rw w [(g3, nvA u, 94), (g4, pvA px pz, 98), (g5, pvA qx qz, 98), (g6, #[.int .u64 0, .int .u64 0, .int .u64 0, .int .u64 0, .int .u64 0, .int .u64 0, .int .u64 0, .int .u64 0, .int .u64 0, .int .u64 0], 98), (g7, #[.int .u64 0, .int .u64 0, .int .u64 0, .int .u64 0, .int .u64 0, .int .u64 0, .int .u64 0, .int .u64 0, .int .u64 0, .int .u64 0], 98), (b8, nvA sum, 94), (b9, nvA dif, 94), (b10, nvA s2, 94), (b11, nvA d2, 94), (b12, nvA e, 94), (b13, nvA da, 94), (b14, nvA cb, 94), (b15, #[.int .u64 0, .int .u64 0, .int .u64 0, .int .u64 0, .int .u64 0], 94), (b16, #[.int .u64 0, .int .u64 0, .int .u64 0, .int .u64 0, .int .u64 0], 94)] w6 from rw_made2 R5.out hb hg hg2 hne hr hr2)
  have RB := Lib.hid (RA.out.store 12 (nvA pl))
  have RC := Lib.hid (RA.out.row 12)
  have RD := Lib.hid (RB.out.row 13)
  have RE := Lib.hid (RB.out.store 13 (nvA mi))
  have R6 := Lib.hid (show Rw w [(g3, nvA u, 94), (g4, pvA px pz, 98), (g5, pvA qx qz, 98), (g6, #[.int .u64 0, .int .u64 0, .int .u64 0, .int .u64 0, .int .u64 0, .int .u64 0, .int .u64 0, .int .u64 0, .int .u64 0, .int .u64 0], 98), (g7, #[.int .u64 0, .int .u64 0, .int .u64 0, .int .u64 0, .int .u64 0, .int .u64 0, .int .u64 0, .int .u64 0, .int .u64 0, .int .u64 0], 98), (b8, nvA sum, 94), (b9, nvA dif, 94), (b10, nvA s2, 94), (b11, nvA d2, 94), (b12, nvA e, 94), (b13, nvA da, 94), (b14, nvA cb, 94), (b15, nvA pl, 94), (b16, nvA mi, 94)] _ from RE.out)
  clear hb hg hr hg2 hr2 hne R5 RA RB RE
  simp only [List.drop_succ_cons, List.drop_zero, Act.put, List.setIfInBounds_toArray, List.set_cons_zero, List.set_cons_succ]
  go_upto_region 7 with (first
    | (with_reducible refine wpList_store_row rfl 94 (.tmp 15) (.tmp 54) rfl b15 (nvA pl) rfl rfl 94 #[.int .u64 0, .int .u64 0, .int .u64 0, .int .u64 0, .int .u64 0] RC.out (infoV pl) rfl (one_nvA pl) ?_)
    | (with_reducible refine wpList_store_row rfl 94 (.tmp 16) (.tmp 57) rfl b16 (nvA mi) rfl rfl 94 #[.int .u64 0, .int .u64 0, .int .u64 0, .int .u64 0, .int .u64 0] RD.out (infoV mi) rfl (one_nvA mi) ?_))
  simp only [Act.put]
  clear RC RD
  generalize (w6.setRow b15 (nvA pl)).setRow b16 (nvA mi) = W6 at R6 ⊢
  refine wp_region_makes1 10 17 (.cells #[.int .u64 0, .int .u64 0, .int .u64 0, .int .u64 0, .int .u64 0, .int .u64 0, .int .u64 0, .int .u64 0, .int .u64 0, .int .u64 0] 98 (0, 0)) (by kernel_rfl) (by kernel_rfl) (by rfl) ⟨_, rfl, rfl, fun _ => rfl, fun _ _ => by go_simp⟩ ?_
  apply Exists.intro
  refine ⟨?_, ?_⟩
  · intro p hp
    have RP := Lib.hid (R6.out.on hp)
    simp only [List.take_succ_cons, List.take_zero]
    go_big_quiet_want
    refine quiet_run (v := .agg (nvA s2)) ?_ ?_
    · rintro w' ⟨q, rfl⟩
      exact run_load_row 94 (.tmp 10) (by rfl) b10 (by rfl) 94 (nvA s2) (0, 0) _ ((RP.out.on q.2).row 7) Tryz.underlying94 rfl (infoV s2)
    simp only [Act.put, List.setIfInBounds_toArray, List.set_cons_zero, List.set_cons_succ]
    go_big_quiet_on
    go_big_quiet_want
    refine quiet_run (v := .agg (nvA d2)) ?_ ?_
    · rintro w' ⟨q, rfl⟩
      exact run_load_row 94 (.tmp 11) (by rfl) b11 (by rfl) 94 (nvA d2) (0, 0) _ ((RP.out.on q.2).row 8) Tryz.underlying94 rfl (infoV d2)
    simp only [Act.put, List.setIfInBounds_toArray, List.set_cons_zero, List.set_cons_succ]
    go_big_quiet_on
    go_big_quiet_step (exact calls_below (CX.out _))
    go_big_quiet_want
    refine quiet_run (v := .agg (nvA e)) ?_ ?_
    · rintro w' ⟨q, rfl⟩
      exact run_load_row 94 (.tmp 12) (by rfl) b12 (by rfl) 94 (nvA e) (0, 0) _ ((RP.out.on q.2).row 9) Tryz.underlying94 rfl (infoV e)
    simp only [Act.put, List.setIfInBounds_toArray, List.set_cons_zero, List.set_cons_succ]
    go_big_quiet_on
    go_big_quiet_want
    refine quiet_run (v := .agg (nvA s2)) ?_ ?_
    · rintro w' ⟨q, rfl⟩
      exact run_load_row 94 (.tmp 10) (by rfl) b10 (by rfl) 94 (nvA s2) (0, 0) _ ((RP.out.on q.2).row 7) Tryz.underlying94 rfl (infoV s2)
    simp only [Act.put, List.setIfInBounds_toArray, List.set_cons_zero, List.set_cons_succ]
    go_big_quiet_on
    go_big_quiet_want
    refine quiet_run (v := .agg (nvA e)) ?_ ?_
    · rintro w' ⟨q, rfl⟩
      exact run_load_row 94 (.tmp 12) (by rfl) b12 (by rfl) 94 (nvA e) (0, 0) _ ((RP.out.on q.2).row 9) Tryz.underlying94 rfl (infoV e)
    simp only [Act.put, List.setIfInBounds_toArray, List.set_cons_zero, List.set_cons_succ]
    go_big_quiet_on
    go_big_quiet_step (exact calls_below (Ck.out _))
    go_big_quiet_step (exact calls_below (Csk.out _))
    go_big_quiet_step (exact calls_below (CZ.out _))
    go_big_quiet_want
    refine quiet_run (v := .agg (pvA X Z)) (fun w' _ => run_pair (.tmp 60) (.tmp 66) (by rfl) (by rfl) (by rfl)) ?_
    simp only [Act.put, List.setIfInBounds_toArray, List.set_cons_zero, List.set_cons_succ]
    go_big_quiet_on
    exact wpQuiet_nil rfl
  intro b17 w7 hg hb hr
  have RA := Lib.hid (rw_made R6.out hb hg hr)
  have RB := Lib.hid (RA.out.store 14 (pvA X Z))
  have RC := Lib.hid (RA.out.row 14)
  have R7 := Lib.hid (show Rw w [(g3, nvA u, 94), (g4, pvA px pz, 98), (g5, pvA qx qz, 98), (g6, #[.int .u64 0, .int .u64 0, .int .u64 0, .int .u64 0, .int .u64 0, .int .u64 0, .int .u64 0, .int .u64 0, .int .u64 0, .int .u64 0], 98), (g7, #[.int .u64 0, .int .u64 0, .int .u64 0, .int .u64 0, .int .u64 0, .int .u64 0, .int .u64 0, .int .u64 0, .int .u64 0, .int .u64 0], 98), (b8, nvA sum, 94), (b9, nvA dif, 94), (b10, nvA s2, 94), (b11, nvA d2, 94), (b12, nvA e, 94), (b13, nvA da, 94), (b14, nvA cb, 94), (b15, nvA pl, 94), (b16, nvA mi, 94), (b17, pvA X Z, 98)] _ from RB.out)
  clear hb hg hr R6 RA RB
  simp only [List.drop_succ_cons, List.drop_zero, Act.put, List.setIfInBounds_toArray, List.set_cons_zero, List.set_cons_succ]
  go_upto_region 8 with (with_reducible refine wpList_store_row rfl 98 (.tmp 17) (.tmp 67) rfl b17 (pvA X Z) rfl rfl 98 #[.int .u64 0, .int .u64 0, .int .u64 0, .int .u64 0, .int .u64 0, .int .u64 0, .int .u64 0, .int .u64 0, .int .u64 0, .int .u64 0] RC.out (infoP X Z) rfl (one_pvA X Z) ?_)
  simp only [Act.put]
  clear RC
  generalize w7.setRow b17 (pvA X Z) = W7 at R7 ⊢
  refine wp_region_makes1 9 18 (.cells #[.int .u64 0, .int .u64 0, .int .u64 0, .int .u64 0, .int .u64 0, .int .u64 0, .int .u64 0, .int .u64 0, .int .u64 0, .int .u64 0] 98 (0, 0)) (by kernel_rfl) (by kernel_rfl) (by rfl) ⟨_, rfl, rfl, fun _ => rfl, fun _ _ => by go_simp⟩ ?_
  apply Exists.intro
  refine ⟨?_, ?_⟩
  · intro p hp
    have RP := Lib.hid (R7.out.on hp)
    simp only [List.take_succ_cons, List.take_zero]
    go_big_quiet_want
    refine quiet_run (v := .agg (nvA pl)) ?_ ?_
    · rintro w' ⟨q, rfl⟩
      exact run_load_row 94 (.tmp 15) (by rfl) b15 (by rfl) 94 (nvA pl) (0, 0) _ ((RP.out.on q.2).row 12) Tryz.underlying94 rfl (infoV pl)
    simp only [Act.put, List.setIfInBounds_toArray, List.set_cons_zero, List.set_cons_succ]
    go_big_quiet_on
    go_big_quiet_want
    refine quiet_run (v := .agg (nvA pl)) ?_ ?_
    · rintro w' ⟨q, rfl⟩
      exact run_load_row 94 (.tmp 15) (by rfl) b15 (by rfl) 94 (nvA pl) (0, 0) _ ((RP.out.on q.2).row 12) Tryz.underlying94 rfl (infoV pl)
    simp only [Act.put, List.setIfInBounds_toArray, List.set_cons_zero, List.set_cons_succ]
    go_big_quiet_on
    go_big_quiet_step (exact calls_below (CPp.out _))
    go_big_quiet_want
    refine quiet_run (v := .agg (nvA u)) ?_ ?_
    · rintro w' ⟨q, rfl⟩
      exact run_load_row 94 (.tmp 3) (by rfl) g3 (by rfl) 94 (nvA u) (0, 0) _ ((RP.out.on q.2).row 0) Tryz.underlying94 rfl (infoV u)
    simp only [Act.put, List.setIfInBounds_toArray, List.set_cons_zero, List.set_cons_succ]
    go_big_quiet_on
    go_big_quiet_want
    refine quiet_run (v := .agg (nvA mi)) ?_ ?_
    · rintro w' ⟨q, rfl⟩
      exact run_load_row 94 (.tmp 16) (by rfl) b16 (by rfl) 94 (nvA mi) (0, 0) _ ((RP.out.on q.2).row 13) Tryz.underlying94 rfl (infoV mi)
    simp only [Act.put, List.setIfInBounds_toArray, List.set_cons_zero, List.set_cons_succ]
    go_big_quiet_on
    go_big_quiet_want
    refine quiet_run (v := .agg (nvA mi)) ?_ ?_
    · rintro w' ⟨q, rfl⟩
      exact run_load_row 94 (.tmp 16) (by rfl) b16 (by rfl) 94 (nvA mi) (0, 0) _ ((RP.out.on q.2).row 13) Tryz.underlying94 rfl (infoV mi)
    simp only [Act.put, List.setIfInBounds_toArray, List.set_cons_zero, List.set_cons_succ]
    go_big_quiet_on
    go_big_quiet_step (exact calls_below (Cm2.out _))
    go_big_quiet_step (exact calls_below (CRr.out _))
    go_big_quiet_want
    refine quiet_run (v := .agg (pvA Pp Rr)) (fun w' _ => run_pair (.tmp 70) (.tmp 75) (by rfl) (by rfl) (by rfl)) ?_
    simp only [Act.put, List.setIfInBounds_toArray, List.set_cons_zero, List.set_cons_succ]
    go_big_quiet_on
    exact wpQuiet_nil rfl
  intro b18 w8 hg hb hr
  have RA := Lib.hid (rw_made R7.out hb hg hr)
  have RB := Lib.hid (RA.out.store 15 (pvA Pp Rr))
  have RC := Lib.hid (RA.out.row 15)
  have R8 := Lib.hid (show Rw w [(g3, nvA u, 94), (g4, pvA px pz, 98), (g5, pvA qx qz, 98), (g6, #[.int .u64 0, .int .u64 0, .int .u64 0, .int .u64 0, .int .u64 0, .int .u64 0, .int .u64 0, .int .u64 0, .int .u64 0, .int .u64 0], 98), (g7, #[.int .u64 0, .int .u64 0, .int .u64 0, .int .u64 0, .int .u64 0, .int .u64 0, .int .u64 0, .int .u64 0, .int .u64 0, .int .u64 0], 98), (b8, nvA sum, 94), (b9, nvA dif, 94), (b10, nvA s2, 94), (b11, nvA d2, 94), (b12, nvA e, 94), (b13, nvA da, 94), (b14, nvA cb, 94), (b15, nvA pl, 94), (b16, nvA mi, 94), (b17, pvA X Z, 98), (b18, pvA Pp Rr, 98)] _ from RB.out)
  clear hb hg hr R7 RA RB
  simp only [List.drop_succ_cons, List.drop_zero, Act.put, List.setIfInBounds_toArray, List.set_cons_zero, List.set_cons_succ]
  go_upto_region 9 with (with_reducible refine wpList_store_row rfl 98 (.tmp 18) (.tmp 76) rfl b18 (pvA Pp Rr) rfl rfl 98 #[.int .u64 0, .int .u64 0, .int .u64 0, .int .u64 0, .int .u64 0, .int .u64 0, .int .u64 0, .int .u64 0, .int .u64 0, .int .u64 0] RC.out (infoP Pp Rr) rfl (one_pvA Pp Rr) ?_)
  simp only [Act.put]
  clear RC
  generalize w8.setRow b18 (pvA Pp Rr) = W8 at R8 ⊢
  have ND := Lib.hid R8.out.nd
  have N1 := nodup_ne ND.out (i := 3) (j := 14) rfl rfl (by decide)
  have N2 := nodup_ne ND.out (i := 4) (j := 14) rfl rfl (by decide)
  have N3 := nodup_ne ND.out (i := 3) (j := 15) rfl rfl (by decide)
  have N4 := nodup_ne ND.out (i := 4) (j := 15) rfl rfl (by decide)
  have N5' := nodup_ne ND.out (i := 3) (j := 4) rfl rfl (by decide)
  have RC := Lib.hid ((R8.out.drew.store 3 (pvA X Z)).store 4 (pvA Pp Rr))
  refine region_two (ty := 98) (d0 := 77) (d1 := 78) (x0 := 17) (x1 := 18) (y0 := 6) (y1 := 7) (b0 := b17) (b1 := b18) (g0 := g6) (g1 := g7) (A := pvA X Z) (B := pvA Pp Rr) (C := #[.int .u64 0, .int .u64 0, .int .u64 0, .int .u64 0, .int .u64 0, .int .u64 0, .int .u64 0, .int .u64 0, .int .u64 0, .int .u64 0]) (D := #[.int .u64 0, .int .u64 0, .int .u64 0, .int .u64 0, .int .u64 0, .int .u64 0, .int .u64 0, .int .u64 0, .int .u64 0, .int .u64 0]) (by kernel_rfl) rfl
    (by rfl) (by rfl) (by rfl) (by rfl) (by rfl) (by rfl) (by rfl) (by rfl) (by rfl) (by rfl) (by rfl) (by rfl) (by rfl) (by rfl) (by rfl) (by rfl)
    (by kernel_rfl) (by kernel_rfl) (by kernel_rfl) (by kernel_rfl) (by kernel_rfl) (by kernel_rfl) (by kernel_rfl) (by kernel_rfl) (by decide) (by simp) (by simp) (by rfl) (by rfl) (by rfl) (by rfl)
    (R8.out.row 14) (R8.out.row 15) (R8.out.row 3) (R8.out.row 4) N1 N2 N3 N4 N5' Tryz.underlying98 rfl (infoP X Z) (infoP Pp Rr) rfl rfl (one_pvA X Z) (one_pvA Pp Rr) (fun _ _ _ _ _ h => h) ?_
  simp only [Act.put, List.setIfInBounds_toArray, List.set_cons_zero, List.set_cons_succ]
  clear N1 N2 N3 N4 N5'
  generalize (W8.drew.setRow g6 (pvA X Z)).setRow g7 (pvA Pp Rr) = wz at RC ⊢
  go_wp2_with fail
  exact bodyPost_ret (results_two_rows rfl _ _ g6 g7 98 98 (pvA X Z) (pvA Pp Rr) (0, 0) (0, 0) _ _ rfl rfl (RC.out.row 3) (RC.out.row 4) Tryz.underlying98 rfl (infoP X Z) Tryz.underlying98 rfl (infoP Pp Rr)) rfl ⟨rfl, RC.out.bel⟩
end Go.Proofs.YtfckjilhkdlpfaaGreatDoor

namespace Go.Proofs.YtfckjilhkdlpfaaGreatDoor
open Go.RowKit MS
section
variable {ops : Array Oper} {rest : List Oper} {o : Oper} {a : Act} {w : World} {Q : Exit → Act → World → Prop}
theorem wpList_load_px (hgd : o.guard = none) (y : Operand) (ho : o.op = .load 94 y) (g : Nat) (hx : a.eval y = .pointer (some ⟨g, 0, none⟩)) (x z : N5) (hb : w.heap[g]? = some (.cells (pvA x z) 98 (0, 0)))
    (h : wpList Tryz.prog ops Q rest (a.put o.dst (.agg (nvA x))) w) : wpList Tryz.prog ops Q (o :: rest) a w :=
  wpList_plain hgd fun _ hK => by
    unfold Oper.wp
    rw [run_x y ho hx hb]
    exact hK _ _ h
theorem wpList_load_pz (hgd : o.guard = none) (y : Operand) (ho : o.op = .load 94 y) (g : Nat) (hx : a.eval y = .pointer (some ⟨g, 5, none⟩)) (x z : N5) (hb : w.heap[g]? = some (.cells (pvA x z) 98 (0, 0)))
    (h : wpList Tryz.prog ops Q rest (a.put o.dst (.agg (nvA z))) w) : wpList Tryz.prog ops Q (o :: rest) a w :=
  wpList_plain hgd fun _ hK => by
    unfold Oper.wp
    rw [run_z y ho hx hb]
    exact hK _ _ h
theorem pair_there {w : World} {g : Nat} {x z : N5} (hb : w.heap[g]? = some (.cells (pvA x z) 98 (0, 0))) (k : Nat) (hk : k ≤ 5) : w.there g k 5 := fun j hj => by
  refine ⟨?_, frozen_of_row w g (k + j) _ _ hb⟩
  rw [cell_of_row w g (k + j) _ _ _ hb]
  have : k + j < (pvA x z).size := by show k + j < 10; omega
  simp [this]
theorem wpList_store_part (hgd : o.guard = none) (y v : Operand) (ho : o.op = .store 94 y v) (g k : Nat) (hk : k ≤ 5) (hx : a.eval y = .pointer (some ⟨g, k, none⟩)) (n : N5) (hv : a.eval v = .agg (nvA n)) (x z : N5) (hb : w.heap[g]? = some (.cells (pvA x z) 98 (0, 0)))
    (h : wpList Tryz.prog ops Q rest (a.put o.dst undef) (w.setCells g k (nvA n).toList)) : wpList Tryz.prog ops Q (o :: rest) a w :=
  wpList_store_mid hgd 94 y v ho g k (nvA n) hx hv (pair_there hb k hk) (infoV n) (one_nvA n) h
end
theorem rw_part_x {w0 w : World} {l : List Blk} (h : Rw w0 l w) (i : Nat) (n : N5) {g : Nat} {x z : N5} {T : TypeId} (hi : l[i]? = some (g, pvA x z, T)) : Rw w0 (l.set i (g, pvA n z, T)) (w.setCells g 0 (nvA n).toList) := by
  have hl : i < l.length := (List.getElem?_eq_some_iff.1 hi).1
  have s : ∀ (b : Blk), (l.set i b)[i]? = some b := fun b => by simp [hl]
  have h1 := h.put i 0 (.int .u64 (n.a : Int)) hi
  have h2 := h1.put i 1 (.int .u64 (n.b : Int)) (s _)
  rw [List.set_set] at h2
  have h3 := h2.put i 2 (.int .u64 (n.c : Int)) (s _)
  rw [List.set_set] at h3
  have h4 := h3.put i 3 (.int .u64 (n.d : Int)) (s _)
  rw [List.set_set] at h4
  have h5 := h4.put i 4 (.int .u64 (n.e : Int)) (s _)
  rw [List.set_set] at h5
  exact h5
theorem rw_part_z {w0 w : World} {l : List Blk} (h : Rw w0 l w) (i : Nat) (n : N5) {g : Nat} {x z : N5} {T : TypeId} (hi : l[i]? = some (g, pvA x z, T)) : Rw w0 (l.set i (g, pvA x n, T)) (w.setCells g 5 (nvA n).toList) := by
  have hl : i < l.length := (List.getElem?_eq_some_iff.1 hi).1
  have s : ∀ (b : Blk), (l.set i b)[i]? = some b := fun b => by simp [hl]
  have h1 := h.put i 5 (.int .u64 (n.a : Int)) hi
  have h2 := h1.put i 6 (.int .u64 (n.b : Int)) (s _)
  rw [List.set_set] at h2
  have h3 := h2.put i 7 (.int .u64 (n.c : Int)) (s _)
  rw [List.set_set] at h3
  have h4 := h3.put i 8 (.int .u64 (n.d : Int)) (s _)
  rw [List.set_set] at h4
  have h5 := h4.put i 9 (.int .u64 (n.e : Int)) (s _)
  rw [List.set_set] at h5
  exact h5

set_option maxRecDepth 1000000 in
set_option maxHeartbeats 8000000 in
theorem pswap_any (ax az bx bz : N5) (yes : Bool) (hax : ax.ok) (haz : az.ok) (hbx : bx.ok) (hbz : bz.ok) (w : World) :
    Calls Tryz.prog 69 #[.agg (pvA ax az), .agg (pvA bx bz), .bool yes] w fun e w' => e = .returned (.tuple #[.agg (pvA (swA ax bx yes) (swA az bz yes)), .agg (pvA (swA bx ax yes) (swA bz az yes))]) ∧ Below w.heap.size w w' := by
  have CX := Lib.hid (fun w => swap_any ax bx yes hax hbx w)
  have CZ := Lib.hid (fun w => swap_any az bz yes haz hbz w)
  generalize swA ax bx yes = cx at *
  generalize swA bx ax yes = dx at *
  generalize swA az bz yes = cz at *
  generalize swA bz az yes = dz at *
  have R0 := Lib.hid (show Rw w [(w.heap.size, pvA ax az, 98), (w.heap.size + 1, pvA bx bz, 98), (w.heap.size + 1 + 1, #[.int .u64 0, .int .u64 0, .int .u64 0, .int .u64 0, .int .u64 0, .int .u64 0, .int .u64 0, .int .u64 0, .int .u64 0, .int .u64 0], 98), (w.heap.size + 1 + 1 + 1, #[.int .u64 0, .int .u64 0, .int .u64 0, .int .u64 0, .int .u64 0, .int .u64 0, .int .u64 0, .int .u64 0, .int .u64 0, .int .u64 0], 98)] ((((w.alloc (.cells (pvA ax az) 98 (0, 0))).alloc (.cells (pvA bx bz) 98 (0, 0))).alloc (.cells #[.int .u64 0, .int .u64 0, .int .u64 0, .int .u64 0, .int .u64 0, .int .u64 0, .int .u64 0, .int .u64 0, .int .u64 0, .int .u64 0] 98 (0, 0))).alloc (.cells #[.int .u64 0, .int .u64 0, .int .u64 0, .int .u64 0, .int .u64 0, .int .u64 0, .int .u64 0, .int .u64 0, .int .u64 0, .int .u64 0] 98 (0, 0))) from by
    have := ((((Rw.nil w).alloc (pvA ax az) 98).alloc (pvA bx bz) 98).alloc #[.int .u64 0, .int .u64 0, .int .u64 0, .int .u64 0, .int .u64 0, .int .u64 0, .int .u64 0, .int .u64 0, .int .u64 0, .int .u64 0] 98).alloc #[.int .u64 0, .int .u64 0, .int .u64 0, .int .u64 0, .int .u64 0, .int .u64 0, .int .u64 0, .int .u64 0, .int .u64 0, .int .u64 0] 98
    simp only [World.size_alloc] at this
    exact this)
  clear hax haz hbx hbz
  go_enter Tryz.func69, Tryz.ntmps69
  go_upto_region 1 with fail
  generalize (((w.alloc (.cells (pvA ax az) 98 (0, 0))).alloc (.cells (pvA bx bz) 98 (0, 0))).alloc (.cells #[.int .u64 0, .int .u64 0, .int .u64 0, .int .u64 0, .int .u64 0, .int .u64 0, .int .u64 0, .int .u64 0, .int .u64 0, .int .u64 0] 98 (0, 0))).alloc (.cells #[.int .u64 0, .int .u64 0, .int .u64 0, .int .u64 0, .int .u64 0, .int .u64 0, .int .u64 0, .int .u64 0, .int .u64 0, .int .u64 0] 98 (0, 0)) = W0 at R0 ⊢
  generalize w.heap.size + 1 + 1 + 1 = g7 at *
  generalize w.heap.size + 1 + 1 = g6 at *
  generalize w.heap.size + 1 = g4 at *
  generalize w.heap.size = g3 at R0 ⊢
  have RA := Lib.hid (R0.out.row 0)
  have RB := Lib.hid (R0.out.row 1)
  go_wp2_with (first
    | (with_reducible refine wpList_load_px rfl (.tmp 9) rfl g3 rfl ax az RA.out ?_)
    | (with_reducible refine wpList_load_px rfl (.tmp 11) rfl g4 rfl bx bz RB.out ?_))
  refine (CX.out _).mono ?_
  rintro e w1 ⟨rfl, hb1⟩
  have R1 := Lib.hid (R0.out.on hb1)
  have R2 := Lib.hid (show Rw w [(g3, pvA cx az, 98), (g4, pvA bx bz, 98), (g6, #[.int .u64 0, .int .u64 0, .int .u64 0, .int .u64 0, .int .u64 0, .int .u64 0, .int .u64 0, .int .u64 0, .int .u64 0, .int .u64 0], 98), (g7, #[.int .u64 0, .int .u64 0, .int .u64 0, .int .u64 0, .int .u64 0, .int .u64 0, .int .u64 0, .int .u64 0, .int .u64 0, .int .u64 0], 98)] (w1.setCells g3 0 (nvA cx).toList) from rw_part_x R1.out 0 cx rfl)
  have R3 := Lib.hid (show Rw w [(g3, pvA cx az, 98), (g4, pvA dx bz, 98), (g6, #[.int .u64 0, .int .u64 0, .int .u64 0, .int .u64 0, .int .u64 0, .int .u64 0, .int .u64 0, .int .u64 0, .int .u64 0, .int .u64 0], 98), (g7, #[.int .u64 0, .int .u64 0, .int .u64 0, .int .u64 0, .int .u64 0, .int .u64 0, .int .u64 0, .int .u64 0, .int .u64 0, .int .u64 0], 98)] ((w1.setCells g3 0 (nvA cx).toList).setCells g4 0 (nvA dx).toList) from rw_part_x R2.out 1 dx rfl)
  have RC := Lib.hid (R1.out.row 0)
  have RD := Lib.hid (R2.out.row 1)
  clear hb1 R0 RA RB R1
  go_upto_region 2 with (first
    | (with_reducible refine wpList_store_part rfl (.tmp 17) (.tmp 15) rfl g3 0 (by decide) rfl cx rfl ax az RC.out ?_)
    | (with_reducible refine wpList_store_part rfl (.tmp 18) (.tmp 16) rfl g4 0 (by decide) rfl dx rfl bx bz RD.out ?_))
  simp only [Act.put]
  clear RC RD R2
  generalize (w1.setCells g3 0 (nvA cx).toList).setCells g4 0 (nvA dx).toList = W1 at R3 ⊢
  have RA := Lib.hid (R3.out.row 0)
  have RB := Lib.hid (R3.out.row 1)
  go_wp2_with (first
    | (with_reducible refine wpList_load_pz rfl (.tmp 20) rfl g3 rfl cx az RA.out ?_)
    | (with_reducible refine wpList_load_pz rfl (.tmp 22) rfl g4 rfl dx bz RB.out ?_))
  refine (CZ.out _).mono ?_
  rintro e w2 ⟨rfl, hb2⟩
  have R4 := Lib.hid (R3.out.on hb2)
  have R5 := Lib.hid (show Rw w [(g3, pvA cx cz, 98), (g4, pvA dx bz, 98), (g6, #[.int .u64 0, .int .u64 0, .int .u64 0, .int .u64 0, .int .u64 0, .int .u64 0, .int .u64 0, .int .u64 0, .int .u64 0, .int .u64 0], 98), (g7, #[.int .u64 0, .int .u64 0, .int .u64 0, .int .u64 0, .int .u64 0, .int .u64 0, .int .u64 0, .int .u64 0, .int .u64 0, .int .u64 0], 98)] (w2.setCells g3 5 (nvA cz).toList) from rw_part_z R4.out 0 cz rfl)
  have R6 := Lib.hid (show Rw w [(g3, pvA cx cz, 98), (g4, pvA dx dz, 98), (g6, #[.int .u64 0, .int .u64 0, .int .u64 0, .int .u64 0, .int .u64 0, .int .u64 0, .int .u64 0, .int .u64 0, .int .u64 0, .int .u64 0], 98), (g7, #[.int .u64 0, .int .u64 0, .int .u64 0, .int .u64 0, .int .u64 0, .int .u64 0, .int .u64 0, .int .u64 0, .int .u64 0, .int .u64 0], 98)] ((w2.setCells g3 5 (nvA cz).toList).setCells g4 5 (nvA dz).toList) from rw_part_z R5.out 1 dz rfl)
  have RC := Lib.hid (R4.out.row 0)
  have RD := Lib.hid (R5.out.row 1)
  clear hb2 R3 RA RB R4
  go_upto_region 3 with (first
    | (with_reducible refine wpList_store_part rfl (.tmp 28) (.tmp 26) rfl g3 5 (by decide) rfl cz rfl cx az RC.out ?_)
    | (with_reducible refine wpList_store_part rfl (.tmp 29) (.tmp 27) rfl g4 5 (by decide) rfl dz rfl dx bz RD.out ?_))
  simp only [Act.put]
  clear RC RD R5
  generalize (w2.setCells g3 5 (nvA cz).toList).setCells g4 5 (nvA dz).toList = W2 at R6 ⊢
  have ND := Lib.hid R6.out.nd
  have N1 := nodup_ne ND.out (i := 2) (j := 0) rfl rfl (by decide)
  have N2 := nodup_ne ND.out (i := 3) (j := 0) rfl rfl (by decide)
  have N3 := nodup_ne ND.out (i := 2) (j := 1) rfl rfl (by decide)
  have N4 := nodup_ne ND.out (i := 3) (j := 1) rfl rfl (by decide)
  have N5' := nodup_ne ND.out (i := 2) (j := 3) rfl rfl (by decide)
  have RC := Lib.hid ((R6.out.drew.store 2 (pvA cx cz)).store 3 (pvA dx dz))
  refine region_two (ty := 98) (d0 := 30) (d1 := 31) (x0 := 3) (x1 := 4) (y0 := 6) (y1 := 7) (b0 := g3) (b1 := g4) (g0 := g6) (g1 := g7) (A := pvA cx cz) (B := pvA dx dz) (C := #[.int .u64 0, .int .u64 0, .int .u64 0, .int .u64 0, .int .u64 0, .int .u64 0, .int .u64 0, .int .u64 0, .int .u64 0, .int .u64 0]) (D := #[.int .u64 0, .int .u64 0, .int .u64 0, .int .u64 0, .int .u64 0, .int .u64 0, .int .u64 0, .int .u64 0, .int .u64 0, .int .u64 0]) (by kernel_rfl) rfl
    (by rfl) (by rfl) (by rfl) (by rfl) (by rfl) (by rfl) (by rfl) (by rfl) (by rfl) (by rfl) (by rfl) (by rfl) (by rfl) (by rfl) (by rfl) (by rfl)
    (by kernel_rfl) (by kernel_rfl) (by kernel_rfl) (by kernel_rfl) (by kernel_rfl) (by kernel_rfl) (by kernel_rfl) (by kernel_rfl) (by decide) (by simp) (by simp) (by rfl) (by rfl) (by rfl) (by rfl)
    (R6.out.row 0) (R6.out.row 1) (R6.out.row 2) (R6.out.row 3) N1 N2 N3 N4 N5' Tryz.underlying98 rfl (infoP cx cz) (infoP dx dz) rfl rfl (one_pvA cx cz) (one_pvA dx dz) (fun _ _ _ _ _ h => h) ?_
  simp only [Act.put, List.setIfInBounds_toArray, List.set_cons_zero, List.set_cons_succ]
  clear N1 N2 N3 N4 N5'
  generalize (W2.drew.setRow g6 (pvA cx cz)).setRow g7 (pvA dx dz) = wz at RC ⊢
  go_wp2_with fail
  exact bodyPost_ret (results_two_rows rfl _ _ g6 g7 98 98 (pvA cx cz) (pvA dx dz) (0, 0) (0, 0) _ _ rfl rfl (RC.out.row 2) (RC.out.row 3) Tryz.underlying98 rfl (infoP cx cz) Tryz.underlying98 rfl (infoP dx dz)) rfl ⟨rfl, RC.out.bel⟩
end Go.Proofs.YtfckjilhkdlpfaaGreatDoor

namespace Go.Proofs.YtfckjilhkdlpfaaGreatDoor
open Go.RowKit MS
theorem sub_val (a : N5) {b : N5} (hb : b.ok) : (sub a b).v % Q' = (a.v % Q' + (Q' - b.v % Q')) % Q' := by
  have h := em_sub_add a hb
  unfold em at h
  rw [add_mod] at h
  have hq : b.v % Q' < Q' := Nat.mod_lt _ (by decide)
  have e1 : (a.v % Q' + (Q' - b.v % Q')) % Q' = (((sub a b).v + b.v) % Q' + (Q' - b.v % Q')) % Q' := by rw [h]
  rw [e1, Nat.add_mod (sub a b).v b.v, Nat.add_mod ((_ : Nat) % Q'), Nat.mod_mod, ← Nat.add_mod]
  rw [Nat.add_assoc, Nat.add_sub_cancel' (Nat.le_of_lt hq), Nat.add_mod_right, Nat.mod_mod]
end Go.Proofs.YtfckjilhkdlpfaaGreatDoor

namespace Go.Proofs.YtfckjilhkdlpfaaGreatDoor
open Go.RowKit MS
set_option maxRecDepth 1000000 in
set_option maxHeartbeats 1000000 in
theorem point_no1 (s u : ByteArray) (w : World) (hs : s.size ≠ 32) : Calls Tryz.prog 47 #[.string s, .string u] w fun e w' => e = .returned (.tuple #[.string ⟨#[]⟩, .bool false]) ∧ Below w.heap.size w w' := by
  have C := Lib.hid (fun w => clamp_no s w hs)
  clear hs
  go_enter Tryz.func47, Tryz.ntmps47
  go_wp2_with fail
  refine (C.out _).mono ?_
  rintro e w1 ⟨rfl, hb⟩
  have B := Lib.hid hb
  clear hb
  go_wp2_with fail
  go_ret2
  exact ⟨rfl, B.out⟩

end Go.Proofs.YtfckjilhkdlpfaaGreatDoor

namespace Go.Proofs.YtfckjilhkdlpfaaGreatDoor
open Go.RowKit MS
/-- The element that a number's limbs are. -/
def fN (x : N5) : MSE.F := toF x.v
theorem fN_add (x y : N5) : fN (add x y) = fN x + fN y := by
  apply Fin.ext
  show (add x y).v % Q' = _
  rw [add_mod, Fin.val_add]
  show (x.v + y.v) % Q' = (x.v % Q' + y.v % Q') % Q'
  rw [← Nat.add_mod]
theorem fN_mul (x y : N5) : fN (mul x y) = fN x * fN y := by
  apply Fin.ext
  show (mul x y).v % Q' = _
  rw [mul_mod, Fin.val_mul]
  show (x.v * y.v) % Q' = (x.v % Q' * (y.v % Q')) % Q'
  rw [← Nat.mul_mod]
theorem fN_sub (x : N5) {y : N5} (hy : y.ok) : fN (sub x y) = fN x - fN y := by
  apply Fin.ext
  show (sub x y).v % Q' = _
  rw [sub_val x hy, Fin.sub_def]
  show (x.v % Q' + (Q' - y.v % Q')) % Q' = (Q' - y.v % Q' + x.v % Q') % Q'
  rw [Nat.add_comm]
theorem fN_inv (x : N5) : fN (invN x) = MSE.inv (fN x) := by
  apply Fin.ext
  show (invN x).v % Q' = _
  rw [invN_mod, inv_val]
  show _ = (x.v % Q') ^ E21 % Q'
  rw [← Nat.pow_mod]
theorem feB_fN (x : N5) : feB x = bs (le32 (fN x).val) := rfl
theorem fN_of (s : ByteArray) : fN (ofS s) = uF s := by
  apply Fin.ext
  show (ofS s).v % Q' = lo255 (leN s) % Q'
  rw [ofS, ofN_v]
  rfl
theorem dbl_link (px pz : N5) (hx : px.ok) (hz : pz.ok) : (fN (dblX px pz), fN (dblZ px pz)) = MSE.dblF (fN px, fN pz) := by
  have h1 : (sub px pz).ok := sub_ok hx
  have h2 : (mul (sub px pz) (sub px pz)).ok := mul_ok h1 h1
  unfold dblX dblZ dblE MSE.dblF
  simp only [fN_mul, fN_add, fN_sub _ hz, fN_sub _ h2]
  rfl
theorem add_link (u px pz qx qz : N5) (hpx : px.ok) (hpz : pz.ok) (hqx : qx.ok) (hqz : qz.ok) : (fN (addX px pz qx qz), fN (addZ u px pz qx qz)) = MSE.addF (fN u) (fN px, fN pz) (fN qx, fN qz) := by
  have h2 : (dcb px pz qx qz).ok := mul_ok (add_ok hqx hqz) (sub_ok hpx)
  unfold addX addZ MSE.addF
  simp only [fN_mul, fN_add, fN_sub _ h2]
  unfold dda dcb
  simp only [fN_mul, fN_add, fN_sub _ hqz, fN_sub _ hpz]
theorem addF_comm (u : MSE.F) (p q : MSE.F × MSE.F) : MSE.addF u p q = MSE.addF u q p := by
  unfold MSE.addF
  simp only [Prod.mk.injEq]
  constructor
  · grind
  · grind
theorem dbl_ok (px pz : N5) (hx : px.ok) (hz : pz.ok) : (dblX px pz).ok ∧ (dblZ px pz).ok := by
  have h1 : (sub px pz).ok := sub_ok hx
  have h3 : (add px pz).ok := add_ok hx hz
  have h2 : (mul (sub px pz) (sub px pz)).ok := mul_ok h1 h1
  have h4 : (mul (add px pz) (add px pz)).ok := mul_ok h3 h3
  have h5 : (dblE px pz).ok := sub_ok h4
  exact ⟨mul_ok h4 h2, mul_ok h5 (add_ok h4 (mul_ok h5 (small_ok 121665 (by decide))))⟩
theorem sum_ok (u px pz qx qz : N5) (hu : u.ok) (hpx : px.ok) (hpz : pz.ok) (hqx : qx.ok) (hqz : qz.ok) : (addX px pz qx qz).ok ∧ (addZ u px pz qx qz).ok := by
  have h1 : (dda px pz qx qz).ok := mul_ok (sub_ok hqx) (add_ok hpx hpz)
  have h2 : (dcb px pz qx qz).ok := mul_ok (add_ok hqx hqz) (sub_ok hpx)
  exact ⟨mul_ok (add_ok h1 h2) (add_ok h1 h2), mul_ok hu (mul_ok (sub_ok h1) (sub_ok h1))⟩
theorem and_one : ∀ n : Fin 256, bits .and .u8 ((n.val : Nat) : Int) 1 = ((n.val % 2 : Nat) : Int) := by decide +kernel
theorem bit_at (n r : Nat) (h : n < 256) : (bits .and .u8 ((n : Int) / 2 ^ r) 1 == 1) = decide (n / 2 ^ r % 2 = 1) := by
  have h1 : (n : Int) / 2 ^ r = ((n / 2 ^ r : Nat) : Int) := by simp [Int.natCast_ediv]
  have h2 := and_one ⟨n / 2 ^ r, Nat.lt_of_le_of_lt (Nat.div_le_self _ _) h⟩
  simp only at h2
  rw [h1, h2]
  by_cases e : n / 2 ^ r % 2 = 1
  · rw [e]
    rfl
  · rw [decide_eq_false e, beq_eq_false_iff_ne]
    omega
/-- What the loop keeps of its two points, changed over or not. -/
structure LStL (u : MSE.F) (f : Nat → Bool) (d : Nat) (sw : Bool) (ax az bx bz : N5) : Prop where
  k1 : ax.ok
  k2 : az.ok
  k3 : bx.ok
  k4 : bz.ok
  p : (fN ax, fN az) = if sw then (MSE.ladF u (bts f d)).2 else (MSE.ladF u (bts f d)).1
  q : (fN bx, fN bz) = if sw then (MSE.ladF u (bts f d)).1 else (MSE.ladF u (bts f d)).2
theorem LStL.swap {u : MSE.F} {f : Nat → Bool} {d : Nat} {sw b : Bool} {ax az bx bz : N5} (h : LStL u f d sw ax az bx bz) :
    LStL u f d b (swA ax bx (sw != b)) (swA az bz (sw != b)) (swA bx ax (sw != b)) (swA bz az (sw != b)) := by
  obtain ⟨k1, k2, k3, k4, p, q⟩ := h
  cases sw <;> cases b <;> simp only [bne_self_eq_false, Bool.true_bne, Bool.false_bne, Bool.not_false, swA, Bool.false_eq_true, if_false, if_true] at p q ⊢
  · exact ⟨k1, k2, k3, k4, p, q⟩
  · exact ⟨k3, k4, k1, k2, q, p⟩
  · exact ⟨k3, k4, k1, k2, q, p⟩
  · exact ⟨k1, k2, k3, k4, p, q⟩
theorem LStL.step {st : N5} {f : Nat → Bool} {d : Nat} {b : Bool} {ax az bx bz : N5} (h : LStL (fN st) f d b ax az bx bz) (hst : st.ok) (hb : f (254 - d) = b) :
    LStL (fN st) f (d + 1) b (dblX ax az) (dblZ ax az) (addX ax az bx bz) (addZ st ax az bx bz) := by
  obtain ⟨k1, k2, k3, k4, p, q⟩ := h
  have o1 := dbl_ok ax az k1 k2
  have o2 := sum_ok st ax az bx bz hst k1 k2 k3 k4
  have l1 := dbl_link ax az k1 k2
  have l2 := add_link st ax az bx bz k1 k2 k3 k4
  refine ⟨o1.1, o1.2, o2.1, o2.2, ?_, ?_⟩
  · rw [l1, p, lad_step, hb]
    cases b
    · rfl
    · rfl
  · rw [l2, p, q, lad_step, hb]
    cases b
    · rfl
    · exact addF_comm _ _ _

theorem wpList_one {ops : Array Oper} {rest : List Oper} {o : Oper} {a : Act} {w : World} {Q : Exit → Act → World → Prop} (hgd : o.guard = none) (ho : o.op = .build 94 #[(0, .const (.int .u64 1))])
    (h : wpList Tryz.prog ops Q rest (a.put o.dst (.agg (nvA ⟨1, 0, 0, 0, 0⟩))) w) : wpList Tryz.prog ops Q (o :: rest) a w :=
  wpList_plain hgd fun _ hK => by
    have : (execOp a.eval o).run Tryz.prog w = .ok (.value (.agg (nvA ⟨1, 0, 0, 0, 0⟩))) w := by
      unfold execOp
      simp only [ho]
      unfold nvA
      go_simp
    unfold Oper.wp
    rw [this]
    exact hK _ _ h
theorem wpList_pair1 {ops : Array Oper} {rest : List Oper} {o : Oper} {a : Act} {w : World} {Q : Exit → Act → World → Prop} (hgd : o.guard = none) (p : Operand) (ho : o.op = .build 98 #[(0, p)]) (x : N5) (hp : a.eval p = .agg (nvA x))
    (h : wpList Tryz.prog ops Q rest (a.put o.dst (.agg (pvA x n0))) w) : wpList Tryz.prog ops Q (o :: rest) a w :=
  wpList_plain hgd fun _ hK => by
    have : (execOp a.eval o).run Tryz.prog w = .ok (.value (.agg (pvA x n0))) w := by
      unfold execOp
      simp only [ho, List.map_toArray, List.map_cons, List.map_nil, hp]
      unfold nvA pvA n0
      go_simp
    unfold Oper.wp
    rw [this]
    exact hK _ _ h
theorem wpList_pair {ops : Array Oper} {rest : List Oper} {o : Oper} {a : Act} {w : World} {Q : Exit → Act → World → Prop} (hgd : o.guard = none) (p q : Operand) (ho : o.op = .build 98 #[(0, p), (1, q)]) (x z : N5) (hp : a.eval p = .agg (nvA x)) (hq : a.eval q = .agg (nvA z))
    (h : wpList Tryz.prog ops Q rest (a.put o.dst (.agg (pvA x z))) w) : wpList Tryz.prog ops Q (o :: rest) a w :=
  wpList_plain hgd fun _ hK => by
    unfold Oper.wp
    rw [run_pair p q ho hp hq]
    exact hK _ _ h

set_option maxRecDepth 1000000 in
set_option maxHeartbeats 8000000 in
theorem point_yes (s u : ByteArray) (w : World) (hs : s.size = 32) (hu : u.size = 32) :
    Calls Tryz.prog 47 #[.string s, .string u] w fun e w' => e = .returned (.tuple #[.string (xB s u), .bool true]) ∧ Below w.heap.size w w' := by
  have C := Lib.hid (fun w => clamp_yes s w hs)
  have O := Lib.hid (fun w => feof_yes u w hu)
  have HX := Lib.hid (show xB s u = bs (le32 (MSE.outF (MSE.ladF (uF u) (bts (kbit (clampB s)) 255)).1).val) from rfl)
  have hk : (clampB s).size = 32 := by rw [clampB, size_bs, length_clampL, length_ls]; exact hs
  have hst : (ofS u).ok := ofN_ok (leN u)
  have hx := fN_of u
  obtain ⟨st, est⟩ : ∃ x, x = ofS u := ⟨_, rfl⟩
  rw [← est] at O hst hx
  obtain ⟨k, ek⟩ : ∃ x, x = clampB s := ⟨_, rfl⟩
  rw [← ek] at C HX hk
  clear est ek
  rw [← hx] at HX
  have HST := Lib.hid hst
  have L0 := Lib.hid (show LStL (fN st) (kbit k) 0 false ⟨1, 0, 0, 0, 0⟩ n0 st ⟨1, 0, 0, 0, 0⟩ from ⟨small_ok 1 (by decide), n0_ok, hst, small_ok 1 (by decide), rfl, rfl⟩)
  generalize xB s u = R at *
  have k1 : (k.size : Int) = 32 := by omega
  have HF := Lib.hid (show ∀ i, kbit k i = decide (((ls k).getD (i / 8) 0).toNat / 2 ^ (i % 8) % 2 = 1) from fun _ => rfl)
  generalize kbit k = f at *
  have HK := Lib.hid hk
  clear hs hu hk hst hx
  go_enter Tryz.func47, Tryz.ntmps47
  go_wp2_with fail
  refine (C.out _).mono ?_
  rintro e w1 ⟨rfl, hb1⟩
  have B1 := Lib.hid hb1
  clear hb1
  go_wp2_with fail
  refine (O.out _).mono ?_
  rintro e w2 ⟨rfl, hb2⟩
  have B2 := Lib.hid (B1.out.trans (hb2.mono B1.out.size))
  have R0 := Lib.hid (show Rw w [(w2.heap.size, #[.int .u64 0, .int .u64 0, .int .u64 0, .int .u64 0, .int .u64 0], 94)] (w2.alloc (.cells #[.int .u64 0, .int .u64 0, .int .u64 0, .int .u64 0, .int .u64 0] 94 (0, 0))) from ((⟨by simp, by simp, by simp, B2.out⟩ : Rw w [] w2)).alloc #[.int .u64 0, .int .u64 0, .int .u64 0, .int .u64 0, .int .u64 0] 94)
  have R1 := Lib.hid (R0.out.store 0 (nvA st))
  have RA := Lib.hid (R0.out.row 0)
  clear hb2 B1
  go_upto_region 5 with (with_reducible refine wpList_store_row rfl 94 (.tmp 8) (.tmp 24) rfl w2.heap.size (nvA st) rfl rfl 94 #[.int .u64 0, .int .u64 0, .int .u64 0, .int .u64 0, .int .u64 0] RA.out (infoV st) rfl (one_nvA st) ?_)
  try simp only [Act.put]
  have R2 := Lib.hid (show Rw w [(w2.heap.size, nvA st, 94)] _ from R1.out)
  clear R0 R1 RA B2
  generalize (w2.alloc (.cells #[.int .u64 0, .int .u64 0, .int .u64 0, .int .u64 0, .int .u64 0] 94 (0, 0))).setRow w2.heap.size (nvA st) = W2 at R2 ⊢
  generalize w2.heap.size = g8 at R2 ⊢
  have R3 := Lib.hid (R2.out.alloc #[.int .u64 0, .int .u64 0, .int .u64 0, .int .u64 0, .int .u64 0, .int .u64 0, .int .u64 0, .int .u64 0, .int .u64 0, .int .u64 0] 98)
  have R4 := Lib.hid (show Rw w [(g8, nvA st, 94), (W2.heap.size, pvA ⟨1, 0, 0, 0, 0⟩ n0, 98)] ((W2.alloc (.cells #[.int .u64 0, .int .u64 0, .int .u64 0, .int .u64 0, .int .u64 0, .int .u64 0, .int .u64 0, .int .u64 0, .int .u64 0, .int .u64 0] 98 (0, 0))).setRow W2.heap.size (pvA ⟨1, 0, 0, 0, 0⟩ n0)) from R3.out.store 1 (pvA ⟨1, 0, 0, 0, 0⟩ n0))
  have RA := Lib.hid (R3.out.row 1)
  go_upto_region 8 with (first
    | (with_reducible refine wpList_one rfl rfl ?_)
    | (with_reducible refine wpList_pair1 rfl (.tmp 28) rfl ⟨1, 0, 0, 0, 0⟩ rfl ?_)
    | (with_reducible refine wpList_store_row rfl 98 (.tmp 9) (.tmp 29) rfl W2.heap.size (pvA ⟨1, 0, 0, 0, 0⟩ n0) rfl rfl 98 #[.int .u64 0, .int .u64 0, .int .u64 0, .int .u64 0, .int .u64 0, .int .u64 0, .int .u64 0, .int .u64 0, .int .u64 0, .int .u64 0] RA.out (infoP _ _) rfl (one_pvA _ _) ?_))
  try simp only [Act.put]
  clear RA R3 R2
  generalize (W2.alloc (.cells #[.int .u64 0, .int .u64 0, .int .u64 0, .int .u64 0, .int .u64 0, .int .u64 0, .int .u64 0, .int .u64 0, .int .u64 0, .int .u64 0] 98 (0, 0))).setRow W2.heap.size (pvA ⟨1, 0, 0, 0, 0⟩ n0) = W3 at R4 ⊢
  generalize W2.heap.size = g9 at R4 ⊢
  have RX := Lib.hid (R4.out.row 0)
  have R5 := Lib.hid (R4.out.alloc #[.int .u64 0, .int .u64 0, .int .u64 0, .int .u64 0, .int .u64 0, .int .u64 0, .int .u64 0, .int .u64 0, .int .u64 0, .int .u64 0] 98)
  have R6 := Lib.hid (show Rw w [(g8, nvA st, 94), (g9, pvA ⟨1, 0, 0, 0, 0⟩ n0, 98), (W3.heap.size, pvA st ⟨1, 0, 0, 0, 0⟩, 98)] ((W3.alloc (.cells #[.int .u64 0, .int .u64 0, .int .u64 0, .int .u64 0, .int .u64 0, .int .u64 0, .int .u64 0, .int .u64 0, .int .u64 0, .int .u64 0] 98 (0, 0))).setRow W3.heap.size (pvA st ⟨1, 0, 0, 0, 0⟩)) from R5.out.store 2 (pvA st ⟨1, 0, 0, 0, 0⟩))
  have RA := Lib.hid (R5.out.row 2)
  go_upto_region 9 with (first
    | (with_reducible refine wpList_load_row rfl 94 (.tmp 8) rfl g8 rfl 94 (nvA st) (0, 0) _ RX.out Tryz.underlying94 rfl (infoV st) ?_)
    | (with_reducible refine wpList_one rfl rfl ?_)
    | (with_reducible refine wpList_pair rfl (.tmp 30) (.tmp 31) rfl st ⟨1, 0, 0, 0, 0⟩ rfl rfl ?_)
    | (with_reducible refine wpList_store_row rfl 98 (.tmp 10) (.tmp 32) rfl W3.heap.size (pvA st ⟨1, 0, 0, 0, 0⟩) rfl rfl 98 #[.int .u64 0, .int .u64 0, .int .u64 0, .int .u64 0, .int .u64 0, .int .u64 0, .int .u64 0, .int .u64 0, .int .u64 0, .int .u64 0] RA.out (infoP _ _) rfl (one_pvA _ _) ?_))
  try simp only [Act.put]
  clear RA RX R5 R4
  generalize (W3.alloc (.cells #[.int .u64 0, .int .u64 0, .int .u64 0, .int .u64 0, .int .u64 0, .int .u64 0, .int .u64 0, .int .u64 0, .int .u64 0, .int .u64 0] 98 (0, 0))).setRow W3.heap.size (pvA st ⟨1, 0, 0, 0, 0⟩) = W4 at R6 ⊢
  generalize W3.heap.size = g10 at R6 ⊢
  go_wp2_with fail
  go_loopw [11, 12] (fun b i wr => ∃ (d : Nat) (sw : Bool) (ax az bx bz : N5), d ≤ 255 ∧ i = .int .i64 (254 - (d : Int)) ∧ b = .bool sw ∧ LStL (fN st) f d sw ax az bx bz ∧ Rw w [(g8, nvA st, 94), (g9, pvA ax az, 98), (g10, pvA bx bz, 98)] wr) (fun _ i _ => (intOf i + 1).toNat)
  case atStart => exact ⟨0, false, _, _, _, _, by omega, rfl, rfl, L0.out, R6.out⟩
  case round =>
    obtain ⟨d, sw, ax, az, bx, bz, hd, rfl, rfl, hl, hr⟩ := hrel
    have L1 := Lib.hid hl
    have R7 := Lib.hid hr
    have HD := Lib.hid hd
    clear hl hr hd L0 R6
    by_cases hlt : d < 255
    · obtain ⟨i, hi⟩ : ∃ i : Nat, i = 254 - d := ⟨_, rfl⟩
      have ei : 254 - (d : Int) = (i : Int) := by omega
      have i0 : (i : Int) ≥ 0 := by omega
      have i1 : (i : Int) ≤ 254 := by omega
      have i2 : (0 : Int) ≤ (i : Int) / 8 := by omega
      have i3 : (i : Int) / 8 < k.size := by omega
      have e8 : ((i : Int) / 8).toNat = i / 8 := by omega
      have hik : i / 8 < k.size := by omega
      have gk := ls_get k (i / 8) hik
      rw [ei]
      have HI := Lib.hid (show i = 254 - d ∧ d < 255 from ⟨hi, hlt⟩)
      have HB := Lib.hid (HF.out i)
      generalize (ls k).getD (i / 8) 0 = b0 at *
      have hbit := bit_at b0.toNat (i % 8) (UInt8.toNat_lt b0)
      rw [← HB.out] at hbit
      have HSW := Lib.hid (L1.out.swap (b := f i))
      have HSTEP := Lib.hid (HSW.out.step HST.out (by rw [← HI.out.1]))
      have KS := Lib.hid (fun w => pswap_any ax az bx bz (sw != f i) L1.out.k1 L1.out.k2 L1.out.k3 L1.out.k4 w)
      have KT := Lib.hid (fun w => step_any st _ _ _ _ HST.out HSW.out.k1 HSW.out.k2 HSW.out.k3 HSW.out.k4 w)
      generalize f i = fi at *
      generalize swA ax bx (sw != fi) = cx at *
      generalize swA az bz (sw != fi) = cz at *
      generalize swA bx ax (sw != fi) = dx at *
      generalize swA bz az (sw != fi) = dz at *
      generalize dblX cx cz = ex at *
      generalize dblZ cx cz = ez at *
      generalize addX cx cz dx dz = gx at *
      generalize addZ st cx cz dx dz = gz at *
      have RA := Lib.hid (R7.out.row 1)
      have RB := Lib.hid (R7.out.row 2)
      clear hi hlt ei
      go_wp2_with (first
        | (with_reducible refine wpList_load_row rfl 98 (.tmp 9) rfl g9 rfl 98 (pvA ax az) (0, 0) _ RA.out Tryz.underlying98 rfl (infoP ax az) ?_)
        | (with_reducible refine wpList_load_row rfl 98 (.tmp 10) rfl g10 rfl 98 (pvA bx bz) (0, 0) _ RB.out Tryz.underlying98 rfl (infoP bx bz) ?_))
      refine (KS.out _).mono ?_
      rintro e w5 ⟨rfl, hb5⟩
      have R8 := Lib.hid (R7.out.on hb5)
      have R9 := Lib.hid (show Rw w [(g8, nvA st, 94), (g9, pvA cx cz, 98), (g10, pvA bx bz, 98)] (w5.setRow g9 (pvA cx cz)) from R8.out.store 1 (pvA cx cz))
      have Ra := Lib.hid (show Rw w [(g8, nvA st, 94), (g9, pvA cx cz, 98), (g10, pvA dx dz, 98)] ((w5.setRow g9 (pvA cx cz)).setRow g10 (pvA dx dz)) from R9.out.store 2 (pvA dx dz))
      have RC := Lib.hid (R8.out.row 1)
      have RD := Lib.hid (R9.out.row 2)
      clear hb5 RA RB R7 R8
      go_upto_region 15 with (first
        | (with_reducible refine wpList_store_row rfl 98 (.tmp 9) (.tmp 53) rfl g9 (pvA cx cz) rfl rfl 98 (pvA ax az) RC.out (infoP cx cz) rfl (one_pvA cx cz) ?_)
        | (with_reducible refine wpList_store_row rfl 98 (.tmp 10) (.tmp 54) rfl g10 (pvA dx dz) rfl rfl 98 (pvA bx bz) RD.out (infoP dx dz) rfl (one_pvA dx dz) ?_))
      try simp only [Act.put]
      clear RC RD R9
      generalize (w5.setRow g9 (pvA cx cz)).setRow g10 (pvA dx dz) = W5 at Ra ⊢
      have RX := Lib.hid (Ra.out.row 0)
      have RA := Lib.hid (Ra.out.row 1)
      have RB := Lib.hid (Ra.out.row 2)
      go_wp2_with (first
        | (with_reducible refine wpList_load_row rfl 94 (.tmp 8) rfl g8 rfl 94 (nvA st) (0, 0) _ RX.out Tryz.underlying94 rfl (infoV st) ?_)
        | (with_reducible refine wpList_load_row rfl 98 (.tmp 9) rfl g9 rfl 98 (pvA cx cz) (0, 0) _ RA.out Tryz.underlying98 rfl (infoP cx cz) ?_)
        | (with_reducible refine wpList_load_row rfl 98 (.tmp 10) rfl g10 rfl 98 (pvA dx dz) (0, 0) _ RB.out Tryz.underlying98 rfl (infoP dx dz) ?_))
      refine (KT.out _).mono ?_
      rintro e w6 ⟨rfl, hb6⟩
      have Rb := Lib.hid (Ra.out.on hb6)
      have Rc := Lib.hid (show Rw w [(g8, nvA st, 94), (g9, pvA ex ez, 98), (g10, pvA dx dz, 98)] (w6.setRow g9 (pvA ex ez)) from Rb.out.store 1 (pvA ex ez))
      have Rd := Lib.hid (show Rw w [(g8, nvA st, 94), (g9, pvA ex ez, 98), (g10, pvA gx gz, 98)] ((w6.setRow g9 (pvA ex ez)).setRow g10 (pvA gx gz)) from Rc.out.store 2 (pvA gx gz))
      have RC := Lib.hid (Rb.out.row 1)
      have RD := Lib.hid (Rc.out.row 2)
      clear hb6 RA RB RX Ra Rb Rc
      go_wp2_with (first
        | (with_reducible refine wpList_store_row rfl 98 (.tmp 9) (.tmp 61) rfl g9 (pvA ex ez) rfl rfl 98 (pvA cx cz) RC.out (infoP ex ez) rfl (one_pvA ex ez) ?_)
        | (with_reducible refine wpList_store_row rfl 98 (.tmp 10) (.tmp 62) rfl g10 (pvA gx gz) rfl rfl 98 (pvA dx dz) RD.out (infoP gx gz) rfl (one_pvA gx gz) ?_))
      go_roundw
      case rel => exact ⟨d + 1, fi, ex, ez, gx, gz, HI.out.2, by have := HI.out; go_num, rfl, HSTEP.out, Rd.out⟩
      case measure => simp [intOf]
    · have j1 : ¬ 254 - (d : Int) ≥ 0 := by omega
      have hd5 : d = 255 := by have := HD.out; omega
      have HX2 := Lib.hid (show R = bs (le32 (MSE.outF (MSE.ladF (fN st) (bts f d)).1).val) from by rw [hd5]; exact HX.out)
      have KS := Lib.hid (fun w => pswap_any ax az bx bz sw L1.out.k1 L1.out.k2 L1.out.k3 L1.out.k4 w)
      have hp1 := L1.out.p
      have hq1 := L1.out.q
      have HP := Lib.hid (show (fN (swA ax bx sw), fN (swA az bz sw)) = (MSE.ladF (fN st) (bts f d)).1 from by
        cases sw
        · exact hp1
        · exact hq1)
      have o1 : (swA ax bx sw).ok := by cases sw; exact L1.out.k1; exact L1.out.k3
      have o2 : (swA az bz sw).ok := by cases sw; exact L1.out.k2; exact L1.out.k4
      obtain ⟨cx, ecx⟩ : ∃ x, x = swA ax bx sw := ⟨_, rfl⟩
      obtain ⟨cz, ecz⟩ : ∃ x, x = swA az bz sw := ⟨_, rfl⟩
      rw [← ecx] at KS HP o1
      rw [← ecz] at KS HP o2
      have oi : (invN cz).ok := nar_ok (invN_nar o2)
      have KI := Lib.hid (fun w => feinvert_any cz o2 w)
      have KM := Lib.hid (fun w => femul_any cx (invN cz) o1 oi w)
      have KB := Lib.hid (fun w => febytes_any (mul cx (invN cz)) (mul_ok o1 oi) w)
      have HR := Lib.hid (show feB (mul cx (invN cz)) = R from by
        rw [HX2.out, feB_fN, fN_mul, fN_inv, ← HP.out]
        rfl)
      rw [HR.out] at KB
      have RA := Lib.hid (R7.out.row 1)
      have RB := Lib.hid (R7.out.row 2)
      clear hlt hd5 hp1 hq1 o1 o2 oi ecx ecz
      go_wp2_with (first
        | (with_reducible refine wpList_load_row rfl 98 (.tmp 9) rfl g9 rfl 98 (pvA ax az) (0, 0) _ RA.out Tryz.underlying98 rfl (infoP ax az) ?_)
        | (with_reducible refine wpList_load_row rfl 98 (.tmp 10) rfl g10 rfl 98 (pvA bx bz) (0, 0) _ RB.out Tryz.underlying98 rfl (infoP bx bz) ?_))
      refine (KS.out _).mono ?_
      rintro e w5 ⟨rfl, hb5⟩
      have R8 := Lib.hid (R7.out.on hb5)
      have R9 := Lib.hid (show Rw w [(g8, nvA st, 94), (g9, pvA cx cz, 98), (g10, pvA bx bz, 98)] (w5.setRow g9 (pvA cx cz)) from R8.out.store 1 (pvA cx cz))
      have RC := Lib.hid (R8.out.row 1)
      clear hb5 RA RB R7 R8
      go_upto_region 18 with (with_reducible refine wpList_store_row rfl 98 (.tmp 9) (.tmp 68) rfl g9 (pvA cx cz) rfl rfl 98 (pvA ax az) RC.out (infoP cx cz) rfl (one_pvA cx cz) ?_)
      try simp only [Act.put]
      clear RC
      generalize w5.setRow g9 (pvA cx cz) = W5 at R9 ⊢
      refine wp_region_below (by kernel_rfl) (by kernel_rfl) ?_
      go_big_quiet_step (fail)
      go_big_quiet_want
      refine quiet_run (v := .agg (nvA cx)) ?_ ?_
      · rintro w' ⟨q, rfl⟩
        exact run_x (.tmp 70) (by rfl) (by rfl) ((R9.out.on q.2).row 1)
      simp only [Act.put, List.setIfInBounds_toArray, List.set_cons_zero, List.set_cons_succ]
      go_big_quiet_on
      go_big_quiet_step (fail)
      go_big_quiet_want
      refine quiet_run (v := .agg (nvA cz)) ?_ ?_
      · rintro w' ⟨q, rfl⟩
        exact run_z (.tmp 72) (by rfl) (by rfl) ((R9.out.on q.2).row 1)
      simp only [Act.put, List.setIfInBounds_toArray, List.set_cons_zero, List.set_cons_succ]
      go_big_quiet_on
      go_big_quiet_step (exact calls_below (KI.out _))
      go_big_quiet_step (exact calls_below (KM.out _))
      go_big_quiet_step (exact calls_below (KB.out _))
      repeat (go_big_quiet_step (fail))
      refine wpQuiet_nil ?_
      rintro _ ⟨p, rfl⟩
      have Rz := Lib.hid (R9.out.on p.2)
      clear R9
      go_wp2_with fail
      go_ret2
      exact ⟨rfl, Rz.out.bel⟩

set_option maxRecDepth 1000000 in
set_option maxHeartbeats 1000000 in
theorem point_no2 (s u : ByteArray) (w : World) (hs : s.size = 32) (hu : u.size ≠ 32) : Calls Tryz.prog 47 #[.string s, .string u] w fun e w' => e = .returned (.tuple #[.string ⟨#[]⟩, .bool false]) ∧ Below w.heap.size w w' := by
  have C := Lib.hid (fun w => clamp_yes s w hs)
  have O := Lib.hid (fun w => feof_no u w hu)
  clear hs hu
  go_enter Tryz.func47, Tryz.ntmps47
  go_wp2_with fail
  refine (C.out _).mono ?_
  rintro e w1 ⟨rfl, hb⟩
  have B1 := Lib.hid hb
  clear hb
  go_wp2_with fail
  refine (O.out _).mono ?_
  rintro e w2 ⟨rfl, hb⟩
  have B2 := Lib.hid (B1.out.trans (hb.mono B1.out.size))
  have R0 := Lib.hid (show Rw w [(w2.heap.size, #[.int .u64 0, .int .u64 0, .int .u64 0, .int .u64 0, .int .u64 0], 94)] (w2.alloc (.cells #[.int .u64 0, .int .u64 0, .int .u64 0, .int .u64 0, .int .u64 0] 94 (0, 0))) from ((⟨by simp, by simp, by simp, B2.out⟩ : Rw w [] w2)).alloc #[.int .u64 0, .int .u64 0, .int .u64 0, .int .u64 0, .int .u64 0] 94)
  have R1 := Lib.hid (R0.out.store 0 (nvA n0))
  have RA := Lib.hid (R0.out.row 0)
  clear hb B1
  go_wp2_with (with_reducible refine wpList_store_row rfl 94 (.tmp 8) (.tmp 24) rfl w2.heap.size (nvA n0) rfl rfl 94 #[.int .u64 0, .int .u64 0, .int .u64 0, .int .u64 0, .int .u64 0] RA.out (infoV n0) rfl (one_nvA n0) ?_)
  go_ret2
  exact ⟨rfl, R1.out.bel⟩

def baseB : ByteArray := bs (9 :: List.replicate 31 0)
theorem size_baseB : baseB.size = 32 := by decide
set_option maxRecDepth 1000000 in
set_option maxHeartbeats 1000000 in
theorem public_yes (s : ByteArray) (w : World) (hs : s.size = 32) : Calls Tryz.prog 30 #[.string s] w fun e w' => e = .returned (.tuple #[.string (xB s baseB), .bool true]) ∧ Below w.heap.size w w' := by
  have B := Lib.hid (fun w => base_any w)
  rw [show bs (9 :: List.replicate 31 0) = baseB from rfl] at B
  have P := Lib.hid (fun w => point_yes s baseB w hs size_baseB)
  clear hs
  obtain ⟨b, eb⟩ : ∃ x, x = baseB := ⟨_, rfl⟩
  rw [← eb] at B P ⊢
  clear eb
  go_enter Tryz.func30, Tryz.ntmps30
  go_wp2_with fail
  refine (B.out _).mono ?_
  rintro e w1 ⟨rfl, hb⟩
  have B1 := Lib.hid hb
  clear hb
  go_wp2_with fail
  refine (P.out _).mono ?_
  rintro e w2 ⟨rfl, hb⟩
  have B2 := Lib.hid (B1.out.trans (hb.mono B1.out.size))
  clear hb B1
  go_wp2_with fail
  go_ret2
  exact ⟨rfl, B2.out⟩

set_option maxRecDepth 1000000 in
set_option maxHeartbeats 1000000 in
theorem public_no (s : ByteArray) (w : World) (hs : s.size ≠ 32) : Calls Tryz.prog 30 #[.string s] w fun e w' => e = .returned (.tuple #[.string ⟨#[]⟩, .bool false]) ∧ Below w.heap.size w w' := by
  have B := Lib.hid (fun w => base_any w)
  rw [show bs (9 :: List.replicate 31 0) = baseB from rfl] at B
  have P := Lib.hid (fun w => point_no1 s baseB w hs)
  clear hs
  obtain ⟨b, eb⟩ : ∃ x, x = baseB := ⟨_, rfl⟩
  rw [← eb] at B P
  clear eb
  go_enter Tryz.func30, Tryz.ntmps30
  go_wp2_with fail
  refine (B.out _).mono ?_
  rintro e w1 ⟨rfl, hb⟩
  have B1 := Lib.hid hb
  clear hb
  go_wp2_with fail
  refine (P.out _).mono ?_
  rintro e w2 ⟨rfl, hb⟩
  have B2 := Lib.hid (B1.out.trans (hb.mono B1.out.size))
  clear hb B1
  go_wp2_with fail
  go_ret2
  exact ⟨rfl, B2.out⟩
end Go.Proofs.YtfckjilhkdlpfaaGreatDoor

namespace Go.Proofs.YtfckjilhkdlpfaaGreatDoor
open Go.RowKit MS
theorem size_xB (s u : ByteArray) : (xB s u).size = 32 := by rw [xB, size_bs, length_le32]
theorem leP_le32 (v : Nat) : ∀ n, n ≤ 32 → leP (le32 v) n = v % 2 ^ (8 * n) := by
  intro n
  induction n with
  | zero => intro _; simp [leP, Nat.mod_one]
  | succ n ih =>
    intro h
    have hl := length_le32 v
    have e : ((le32 v).getD n 0).toNat = v / 2 ^ (8 * n) % 256 := by
      rw [List.getD_eq_getElem?_getD, List.getElem?_eq_getElem (by omega)]
      simp only [le32, List.getElem_map, List.getElem_range, Option.getD_some]
      rw [UInt8.toNat_ofNat', Nat.mod_mod]
    rw [leP, ih (by omega), e, show 8 * (n + 1) = 8 * n + 8 by omega, Nat.pow_add, Nat.mod_mul, Nat.mul_comm (2 ^ (8 * n))]
theorem leN_le32 (v : Nat) (h : v < 2 ^ 256) : leN (bs (le32 v)) = v := by
  rw [leN, ls_bs, leP_le32 v 32 (Nat.le_refl _)]
  exact Nat.mod_eq_of_lt h
theorem uF_of (x : MSE.F) : uF (bs (le32 x.val)) = x := by
  have h1 : x.val < MSE.Q := x.isLt
  have h2 : MSE.Q < 2 ^ 255 := by decide
  apply Fin.ext
  show lo255 (leN (bs (le32 x.val))) % MSE.Q = x.val
  rw [leN_le32 _ (Nat.lt_trans h1 (Nat.lt_trans h2 (by decide))), lo255, Nat.mod_eq_of_lt (Nat.lt_trans h1 h2), Nat.mod_eq_of_lt h1]
theorem clamp_low (s : ByteArray) (hs : s.size = 32) : ((ls (clampB s)).getD 0 0).toNat % 8 = 0 := by
  have hl : (ls s).length = 32 := by rw [length_ls]; exact hs
  rw [clampB, ls_bs]
  unfold clampL
  generalize ls s = l at hl
  match l, hl with
  | [a0, a1, a2, a3, a4, a5, a6, a7, a8, a9, a10, a11, a12, a13, a14, a15, a16, a17, a18, a19, a20, a21, a22, a23, a24, a25, a26, a27, a28, a29, a30, a31], _ =>
    show (UInt8.ofNat (a0.toNat - a0.toNat % 8)).toNat % 8 = 0
    have := a0.toNat_lt
    have hy : a0.toNat - a0.toNat % 8 = 8 * (a0.toNat / 8) := by omega
    rw [hy, UInt8.toNat_ofNat', Nat.mod_eq_of_lt (show 8 * (a0.toNat / 8) < 2 ^ 8 by omega)]
    omega
theorem low_bits (s : ByteArray) (hs : s.size = 32) : kbit (clampB s) 0 = false ∧ kbit (clampB s) 1 = false := by
  have h := clamp_low s hs
  unfold kbit
  constructor
  · show decide (((ls (clampB s)).getD 0 0).toNat / 1 % 2 = 1) = false
    exact decide_eq_false (by omega)
  · show decide (((ls (clampB s)).getD 0 0).toNat / 2 % 2 = 1) = false
    exact decide_eq_false (by omega)
theorem bts_succ (f : Nat → Bool) (d : Nat) : bts f (d + 1) = bts f d ++ [f (254 - d)] := rfl
def cbits (s : ByteArray) : List Bool := bts (kbit (clampB s)) 255
theorem xlB_eq (s u : ByteArray) : xlB s u = MSE.xlF (uF u) (cbits s) := rfl
theorem xB_eq (s u : ByteArray) : xB s u = bs (le32 (xlB s u).val) := rfl
theorem xl_bits (s : ByteArray) (hs : s.size = 32) : ∃ c, cbits s = c ++ [false, false] := by
  obtain ⟨h0, h1⟩ := low_bits s hs
  refine ⟨bts (kbit (clampB s)) 253, ?_⟩
  have e1 := bts_succ (kbit (clampB s)) 254
  have e2 := bts_succ (kbit (clampB s)) 253
  rw [Nat.sub_self, h0] at e1
  rw [show 254 - 253 = 1 from rfl, h1] at e2
  rw [cbits, e1, e2]
  generalize bts (kbit (clampB s)) 253 = x
  simp
theorem xB_comm (a b u : ByteArray) (ha : a.size = 32) (hb : b.size = 32) : xB b (xB a u) = xB a (xB b u) := by
  obtain ⟨c, hc⟩ := xl_bits a ha
  obtain ⟨d, hd⟩ := xl_bits b hb
  have e1 : uF (xB a u) = xlB a u := uF_of _
  have e2 : uF (xB b u) = xlB b u := uF_of _
  rw [xB_eq b (xB a u), xB_eq a (xB b u), xlB_eq b (xB a u), xlB_eq a (xB b u), e1, e2, xlB_eq a u, xlB_eq b u, hc, hd, show c ++ [false, false] = (c ++ [false]) ++ [false] by simp, show d ++ [false, false] = (d ++ [false]) ++ [false] by simp, MSE.xl_comm]

/-- The ladder of the part 1: its points are 0, 1, -1, infinity, one behind the other. -/
def Q4 (n : Nat) (p : MSE.F × MSE.F) : Prop := ∃ l : MSE.F, l ≠ 0 ∧ p = if n % 4 = 0 then (l, 0) else if n % 4 = 2 then (0, l) else (l, l)
end Go.Proofs.YtfckjilhkdlpfaaGreatDoor

namespace Go.Proofs.YtfckjilhkdlpfaaGreatDoor
open Go.RowKit MS
attribute [local go_sem] w_add w_xor w_or w_and w_sub
set_option maxHeartbeats 400000 in
theorem rot16 (x : W32) (w : World) :
    Calls Tryz.prog 119 #[.int .u32 (wv x), .int .i64 16] w fun e w' => e = .returned (.int .u32 (wv (x.rotateLeft 16))) ∧ w = w' := by
  have a1 : bits BinOp.and IntKind.u64 16 31 = 16 := by decide +kernel
  have a2 := w_rot x 16 16 (by decide) (by decide) (wv x * 65536 % 4294967296) (wv x / 65536) (by unfold wv; omega) (by unfold wv; omega)
  go_enter Tryz.func119, Tryz.ntmps119
  go_wp2
  go_ret
  exact ⟨rfl, rfl⟩

set_option maxHeartbeats 400000 in
theorem rot12 (x : W32) (w : World) :
    Calls Tryz.prog 119 #[.int .u32 (wv x), .int .i64 12] w fun e w' => e = .returned (.int .u32 (wv (x.rotateLeft 12))) ∧ w = w' := by
  have a1 : bits BinOp.and IntKind.u64 12 31 = 12 := by decide +kernel
  have a2 := w_rot x 12 20 (by decide) (by decide) (wv x * 4096 % 4294967296) (wv x / 1048576) (by unfold wv; omega) (by unfold wv; omega)
  go_enter Tryz.func119, Tryz.ntmps119
  go_wp2
  go_ret
  exact ⟨rfl, rfl⟩

set_option maxHeartbeats 400000 in
theorem rot8 (x : W32) (w : World) :
    Calls Tryz.prog 119 #[.int .u32 (wv x), .int .i64 8] w fun e w' => e = .returned (.int .u32 (wv (x.rotateLeft 8))) ∧ w = w' := by
  have a1 : bits BinOp.and IntKind.u64 8 31 = 8 := by decide +kernel
  have a2 := w_rot x 8 24 (by decide) (by decide) (wv x * 256 % 4294967296) (wv x / 16777216) (by unfold wv; omega) (by unfold wv; omega)
  go_enter Tryz.func119, Tryz.ntmps119
  go_wp2
  go_ret
  exact ⟨rfl, rfl⟩

set_option maxHeartbeats 400000 in
theorem rot7 (x : W32) (w : World) :
    Calls Tryz.prog 119 #[.int .u32 (wv x), .int .i64 7] w fun e w' => e = .returned (.int .u32 (wv (x.rotateLeft 7))) ∧ w = w' := by
  have a1 : bits BinOp.and IntKind.u64 7 31 = 7 := by decide +kernel
  have a2 := w_rot x 7 25 (by decide) (by decide) (wv x * 128 % 4294967296) (wv x / 33554432) (by unfold wv; omega) (by unfold wv; omega)
  go_enter Tryz.func119, Tryz.ntmps119
  go_wp2
  go_ret
  exact ⟨rfl, rfl⟩

/-- The quarter round. -/
def qa (a b c d : W32) : W32 := let a := a + b; let d := (d ^^^ a).rotateLeft 16; let c := c + d; let b := (b ^^^ c).rotateLeft 12; a + b
def qd (a b c d : W32) : W32 := let a1 := a + b; let d1 := (d ^^^ a1).rotateLeft 16; (d1 ^^^ qa a b c d).rotateLeft 8
def qc (a b c d : W32) : W32 := let a1 := a + b; let d1 := (d ^^^ a1).rotateLeft 16; (c + d1) + qd a b c d
def qb (a b c d : W32) : W32 := let a1 := a + b; let d1 := (d ^^^ a1).rotateLeft 16; let c1 := c + d1; (((b ^^^ c1).rotateLeft 12) ^^^ qc a b c d).rotateLeft 7

set_option maxHeartbeats 400000 in
theorem quarter_any (a b c d : W32) (w : World) :
    Calls Tryz.prog 138 #[.int .u32 (wv a), .int .u32 (wv b), .int .u32 (wv c), .int .u32 (wv d)] w fun e w' =>
      e = .returned (.tuple #[.int .u32 (wv (qa a b c d)), .int .u32 (wv (qb a b c d)), .int .u32 (wv (qc a b c d)), .int .u32 (wv (qd a b c d))]) ∧ w = w' := by
  go_enter Tryz.func138, Tryz.ntmps138
  go_wp2_with fail
  refine (rot16 _ _).mono ?_
  rintro e w' ⟨rfl, rfl⟩
  go_wp2_with fail
  refine (rot12 _ _).mono ?_
  rintro e w' ⟨rfl, rfl⟩
  go_wp2_with fail
  refine (rot8 _ _).mono ?_
  rintro e w' ⟨rfl, rfl⟩
  go_wp2_with fail
  refine (rot7 _ _).mono ?_
  rintro e w' ⟨rfl, rfl⟩
  go_wp2_with fail
  refine bodyPost_ret (v := .tuple #[.int .u32 (wv (qa a b c d)), .int .u32 (wv (qb a b c d)), .int .u32 (wv (qc a b c d)), .int .u32 (wv (qd a b c d))]) ?_ rfl ⟨rfl, rfl⟩
  simp [results, Tryz.results138, go_sem, qa, qb, qc, qd]
end Go.Proofs.YtfckjilhkdlpfaaGreatDoor

namespace Go.Proofs.YtfckjilhkdlpfaaGreatDoor
open Go.RowKit MS
attribute [local go_sem] w_add w_xor w_or w_and w_sub
set_option maxHeartbeats 400000 in
theorem begin_no (key nonce : ByteArray) (c : Int) (h : key.size ≠ 32 ∨ nonce.size ≠ 12) (w : World) :
    Calls Tryz.prog 94 #[.string key, .string nonce, .int .u32 c] w fun e w' => e = .returned (.tuple #[.agg #[.int .u32 0, .int .u32 0, .int .u32 0, .int .u32 0, .int .u32 0, .int .u32 0, .int .u32 0, .int .u32 0, .int .u32 0, .int .u32 0, .int .u32 0, .int .u32 0, .int .u32 0, .int .u32 0, .int .u32 0, .int .u32 0], .bool false]) ∧ Below w.heap.size w w' := by
  by_cases h1 : key.size = 32
  · have h2 : nonce.size ≠ 12 := by omega
    have t1 : ((key.size : Int) != 32) = false := by simp; omega
    have t2 : ((nonce.size : Int) != 12) = true := by simp; omega
    have H1 := Lib.hid h1
    clear h h1 h2
    go_enter Tryz.func94, Tryz.ntmps94
    go_wp2_with fail
    refine bodyPost_ret (v := .tuple #[.agg #[.int .u32 0, .int .u32 0, .int .u32 0, .int .u32 0, .int .u32 0, .int .u32 0, .int .u32 0, .int .u32 0, .int .u32 0, .int .u32 0, .int .u32 0, .int .u32 0, .int .u32 0, .int .u32 0, .int .u32 0, .int .u32 0], .bool false]) (by simp [results, Tryz.results94, go_sem]) rfl ⟨rfl, ?_⟩
    repeat (first | (with_reducible exact Below.refl _ _) | (with_reducible refine below_setCell ?_ (by simp) _) | (with_reducible apply below_alloc))
  · have t1 : ((key.size : Int) != 32) = true := by simp; omega
    clear h h1
    go_enter Tryz.func94, Tryz.ntmps94
    go_wp2_with fail
    refine bodyPost_ret (v := .tuple #[.agg #[.int .u32 0, .int .u32 0, .int .u32 0, .int .u32 0, .int .u32 0, .int .u32 0, .int .u32 0, .int .u32 0, .int .u32 0, .int .u32 0, .int .u32 0, .int .u32 0, .int .u32 0, .int .u32 0, .int .u32 0, .int .u32 0], .bool false]) (by simp [results, Tryz.results94, go_sem]) rfl ⟨rfl, ?_⟩
    repeat (first | (with_reducible exact Below.refl _ _) | (with_reducible refine below_setCell ?_ (by simp) _) | (with_reducible apply below_alloc))

end Go.Proofs.YtfckjilhkdlpfaaGreatDoor

namespace Go.Proofs.YtfckjilhkdlpfaaGreatDoor
open Go.RowKit MS
attribute [local go_sem] w_add w_xor w_or w_and w_sub
set_option maxHeartbeats 400000 in
theorem left16 (x : W32) (w : World) :
    Calls Tryz.prog 135 #[.int .u32 (wv x), .int .i64 16] w fun e w' => e = .returned (.int .u32 (wv (x.rotateLeft 16))) ∧ ∃ k, w' = w.drewN k := by
  have a2 := w_rot x 16 16 (by decide) (by decide) (wv x * 65536 % 4294967296) (wv x / 65536) (by unfold wv; omega) (by unfold wv; omega)
  go_enter Tryz.func135, Tryz.ntmps135
  go_wp2
  go_quiet (fail)
  go_wp2
  go_ret
  exact ⟨rfl, _, rfl⟩

set_option maxHeartbeats 400000 in
theorem left8 (x : W32) (w : World) :
    Calls Tryz.prog 135 #[.int .u32 (wv x), .int .i64 8] w fun e w' => e = .returned (.int .u32 (wv (x.rotateLeft 8))) ∧ ∃ k, w' = w.drewN k := by
  have a2 := w_rot x 8 24 (by decide) (by decide) (wv x * 256 % 4294967296) (wv x / 16777216) (by unfold wv; omega) (by unfold wv; omega)
  go_enter Tryz.func135, Tryz.ntmps135
  go_wp2
  go_quiet (fail)
  go_wp2
  go_ret
  exact ⟨rfl, _, rfl⟩

set_option maxHeartbeats 400000 in
theorem left12 (x : W32) (w : World) :
    Calls Tryz.prog 135 #[.int .u32 (wv x), .int .i64 12] w fun e w' => e = .returned (.int .u32 (wv (x.rotateLeft 12))) ∧ ∃ k, w' = w.drewN k := by
  have a2 := w_rot x 12 20 (by decide) (by decide) (wv x * 4096 % 4294967296) (wv x / 1048576) (by unfold wv; omega) (by unfold wv; omega)
  go_enter Tryz.func135, Tryz.ntmps135
  go_wp2
  go_quiet (fail)
  go_wp2
  go_ret
  exact ⟨rfl, _, rfl⟩

set_option maxHeartbeats 400000 in
theorem left7 (x : W32) (w : World) :
    Calls Tryz.prog 135 #[.int .u32 (wv x), .int .i64 7] w fun e w' => e = .returned (.int .u32 (wv (x.rotateLeft 7))) ∧ ∃ k, w' = w.drewN k := by
  have a2 := w_rot x 7 25 (by decide) (by decide) (wv x * 128 % 4294967296) (wv x / 33554432) (by unfold wv; omega) (by unfold wv; omega)
  go_enter Tryz.func135, Tryz.ntmps135
  go_wp2
  go_quiet (fail)
  go_wp2
  go_ret
  exact ⟨rfl, _, rfl⟩

end Go.Proofs.YtfckjilhkdlpfaaGreatDoor

namespace Go.Proofs.YtfckjilhkdlpfaaGreatDoor
open Go.RowKit MS
attribute [local go_sem] w_add w_xor w_or w_and w_sub
/-- Four places of a row, turned. -/
def updCh (cs : Array Value) (ia ib ic id : Nat) (A B D E : W32) : Array Value :=
  (((cs.setIfInBounds ia (.int .u32 (wv A))).setIfInBounds ib (.int .u32 (wv B))).setIfInBounds ic (.int .u32 (wv D))).setIfInBounds id (.int .u32 (wv E))

/-- What is known of the world between two statements. -/
structure QSt (b ia ib ic id m T : Nat) (cs : Array Value) (w0 w : World) (A B D E : W32) : Prop where
  ab : ia ≠ ib
  ac : ia ≠ ic
  ad : ia ≠ id
  bc : ib ≠ ic
  bd : ib ≠ id
  cd : ic ≠ id
  la : ia < cs.size
  lb : ib < cs.size
  lc : ic < cs.size
  ld : id < cs.size
  bm : b ≠ m
  row : w.heap[b]? = some (.cells (updCh cs ia ib ic id A B D E) T (0, 0))
  mrow : w.heap[m]? = some (.cells #[.int .i64 16, .int .i64 8] 3 (0, 0))
  grown : w0.grownBy w (some b)

section
variable {b ia ib ic id m T : Nat} {cs : Array Value} {w0 w : World} {A B D E : W32}
theorem QSt.cA (h : QSt b ia ib ic id m T cs w0 w A B D E) : w.cell? ⟨b, ia, none⟩ = some (.int .u32 (wv A)) := by
  rw [cell_of_row w b ia _ _ _ h.row]
  have h1 := h.la
  have h2 := Ne.symm h.ab
  have h3 := Ne.symm h.ac
  have h4 := Ne.symm h.ad
  simp [updCh, h1, h2, h3, h4]
theorem QSt.cB (h : QSt b ia ib ic id m T cs w0 w A B D E) : w.cell? ⟨b, ib, none⟩ = some (.int .u32 (wv B)) := by
  rw [cell_of_row w b ib _ _ _ h.row]
  have h1 := h.lb
  have h3 := Ne.symm h.bc
  have h4 := Ne.symm h.bd
  simp [updCh, h1, h3, h4]
theorem QSt.cC (h : QSt b ia ib ic id m T cs w0 w A B D E) : w.cell? ⟨b, ic, none⟩ = some (.int .u32 (wv D)) := by
  rw [cell_of_row w b ic _ _ _ h.row]
  have h1 := h.lc
  have h4 := Ne.symm h.cd
  simp [updCh, h1, h4]
theorem QSt.cD (h : QSt b ia ib ic id m T cs w0 w A B D E) : w.cell? ⟨b, id, none⟩ = some (.int .u32 (wv E)) := by
  rw [cell_of_row w b id _ _ _ h.row]
  have h1 := h.ld
  simp [updCh, h1]
theorem QSt.fr (h : QSt b ia ib ic id m T cs w0 w A B D E) (i : Nat) : w.frozen? ⟨b, i, none⟩ = false := frozen_of_row w b i _ _ h.row
theorem QSt.m0 (h : QSt b ia ib ic id m T cs w0 w A B D E) : w.cell? ⟨m, 0, none⟩ = some (.int .i64 16) := by rw [cell_of_row w m 0 _ _ _ h.mrow]; rfl
theorem QSt.m1 (h : QSt b ia ib ic id m T cs w0 w A B D E) : w.cell? ⟨m, 1, none⟩ = some (.int .i64 8) := by rw [cell_of_row w m 1 _ _ _ h.mrow]; rfl
theorem grown_setCh {w0 w : World} {b : Nat} (h : w0.grownBy w (some b)) (k i : Nat) (v : Value) : w0.grownBy ((w.drewN k).setCell ⟨b, i, none⟩ v) (some b) := by
  refine ⟨h.os, h.tape, h.output, by simpa [World.setCell] using h.size, fun j hj hne => ?_⟩
  rw [heap_setCell_other _ _ _ _ (fun e => hne (by rw [e]))]
  exact h.block j hj hne
theorem row_setCh {w : World} {b T : Nat} {cs : Array Value} (h : w.heap[b]? = some (.cells cs T (0, 0))) (k i : Nat) (v : Value) : ((w.drewN k).setCell ⟨b, i, none⟩ v).heap[b]? = some (.cells (cs.setIfInBounds i v) T (0, 0)) :=
  heap_setCell_same (w.drewN k) b i cs T v h
theorem row_keep {w : World} {b m : Nat} (h : b ≠ m) (k i : Nat) (v : Value) : ((w.drewN k).setCell ⟨b, i, none⟩ v).heap[m]? = w.heap[m]? :=
  heap_setCell_other _ _ _ _ (Ne.symm h)
theorem QSt.set (h : QSt b ia ib ic id m T cs w0 w A B D E) {A' B' D' E' : W32} (i : Nat) (X : W32) (k : Nat)
    (he : (updCh cs ia ib ic id A B D E).setIfInBounds i (.int .u32 (wv X)) = updCh cs ia ib ic id A' B' D' E') : QSt b ia ib ic id m T cs w0 ((w.drewN k).setCell ⟨b, i, none⟩ (.int .u32 (wv X))) A' B' D' E' :=
  { h with row := by rw [row_setCh h.row, he], mrow := by rw [row_keep h.bm]; exact h.mrow, grown := grown_setCh h.grown k i _ }
theorem QSt.setA (h : QSt b ia ib ic id m T cs w0 w A B D E) (X : W32) (k : Nat) : QSt b ia ib ic id m T cs w0 ((w.drewN k).setCell ⟨b, ia, none⟩ (.int .u32 (wv X))) X B D E := by
  refine h.set ia X k ?_
  unfold updCh
  rw [Array.setIfInBounds_comm _ _ (Ne.symm h.ad), Array.setIfInBounds_comm _ _ (Ne.symm h.ac), Array.setIfInBounds_comm _ _ (Ne.symm h.ab), Array.setIfInBounds_setIfInBounds]
theorem QSt.setB (h : QSt b ia ib ic id m T cs w0 w A B D E) (X : W32) (k : Nat) : QSt b ia ib ic id m T cs w0 ((w.drewN k).setCell ⟨b, ib, none⟩ (.int .u32 (wv X))) A X D E := by
  refine h.set ib X k ?_
  unfold updCh
  rw [Array.setIfInBounds_comm _ _ (Ne.symm h.bd), Array.setIfInBounds_comm _ _ (Ne.symm h.bc), Array.setIfInBounds_setIfInBounds]
theorem QSt.setC (h : QSt b ia ib ic id m T cs w0 w A B D E) (X : W32) (k : Nat) : QSt b ia ib ic id m T cs w0 ((w.drewN k).setCell ⟨b, ic, none⟩ (.int .u32 (wv X))) A B X E := by
  refine h.set ic X k ?_
  unfold updCh
  rw [Array.setIfInBounds_comm _ _ (Ne.symm h.cd), Array.setIfInBounds_setIfInBounds]
theorem QSt.setD (h : QSt b ia ib ic id m T cs w0 w A B D E) (X : W32) (k : Nat) : QSt b ia ib ic id m T cs w0 ((w.drewN k).setCell ⟨b, id, none⟩ (.int .u32 (wv X))) A B D X := by
  refine h.set id X k ?_
  unfold updCh
  rw [Array.setIfInBounds_setIfInBounds]
end
set_option maxHeartbeats 2000000 in
theorem rq_any (b C T ia ib ic id : Nat) (cs : Array Value) (A B D E : W32) (w : World)
    (hab : ia ≠ ib) (hac : ia ≠ ic) (had : ia ≠ id) (hbc : ib ≠ ic) (hbd : ib ≠ id) (hcd : ic ≠ id)
    (ha : ia < cs.size) (hb : ib < cs.size) (hc : ic < cs.size) (hd : id < cs.size) (hr : w.heap[b]? = some (.cells (updCh cs ia ib ic id A B D E) T (0, 0))) :
    Calls Tryz.prog 113 #[.slice (some ⟨b, 0, none⟩) cs.size C, .int .i64 ia, .int .i64 ib, .int .i64 ic, .int .i64 id] w fun e w' => e = .returned (.tuple #[]) ∧ w.grownBy w' (some b) ∧ w'.heap[b]? = some (.cells (updCh cs ia ib ic id (qa A B D E) (qb A B D E) (qc A B D E) (qd A B D E)) T (0, 0)) := by
  have hbz : b < w.heap.size := (Array.getElem?_eq_some_iff.1 hr).1
  have st : QSt b ia ib ic id w.heap.size T cs w (w.alloc (.cells #[.int .i64 16, .int .i64 8] 3 (0, 0))) A B D E :=
    ⟨hab, hac, had, hbc, hbd, hcd, ha, hb, hc, hd, by omega, ((MapKept.heap_alloc w _).2 b hbz).trans hr, (MapKept.heap_alloc w _).1, World.grownBy_alloc w _ _⟩
  have na : (0:Int) ≤ ia := by omega
  have nb : (0:Int) ≤ ib := by omega
  have nc : (0:Int) ≤ ic := by omega
  have nd : (0:Int) ≤ id := by omega
  have ja : (ia:Int) < (cs.size:Int) := by omega
  have jb : (ib:Int) < (cs.size:Int) := by omega
  have jc : (ic:Int) < (cs.size:Int) := by omega
  have jd : (id:Int) < (cs.size:Int) := by omega
  have ca := st.cA
  have cb := st.cB
  have cc := st.cC
  have cd := st.cD
  have fr := st.fr
  have m0 := st.m0
  have m1 := st.m1
  have HR := Lib.hid hr
  clear hr
  go_enter Tryz.func113, Tryz.ntmps113
  go_wp2_with fail
  generalize World.alloc _ _ = wn at st ca cb cc cd fr m0 m1 ⊢
  refine wp_loop_rounds 3 ?_
  rw [rounds_succ]
  go_wp2_with fail
  refine wp_region_draws_tail 12 (by kernel_rfl) (by kernel_rfl) ?_
  simp only [List.take_succ_cons, List.take_zero, List.drop_succ_cons, List.drop_zero]
  repeat (go_big_quiet_step (fail))
  refine wpQuiet_nil ?_
  intro _ hw'
  obtain ⟨k1, hw''⟩ := hw'
  subst hw''
  go_wp2_with fail
  replace st := st.setA (A + B) k1
  generalize World.setCell (World.drewN _ k1) _ _ = wn at st ⊢
  clear ca cb cc cd fr m0 m1
  have ca := st.cA
  have cb := st.cB
  have cc := st.cC
  have cd := st.cD
  have fr := st.fr
  have m0 := st.m0
  have m1 := st.m1
  refine wp_region_draws_tail 14 (by kernel_rfl) (by kernel_rfl) ?_
  simp only [List.take_succ_cons, List.take_zero, List.drop_succ_cons, List.drop_zero]
  repeat (go_big_quiet_step ((go_at_call 135; exact Calls.quiet_of (left16 _ _))))
  refine wpQuiet_nil ?_
  intro _ hw'
  obtain ⟨k2, hw''⟩ := hw'
  subst hw''
  go_wp2_with fail
  replace st := st.setD ((E ^^^ (A + B)).rotateLeft 16) k2
  generalize World.setCell (World.drewN _ k2) _ _ = wn at st ⊢
  clear ca cb cc cd fr m0 m1
  have ca := st.cA
  have cb := st.cB
  have cc := st.cC
  have cd := st.cD
  have fr := st.fr
  have m0 := st.m0
  have m1 := st.m1
  refine wp_region_draws_tail 12 (by kernel_rfl) (by kernel_rfl) ?_
  simp only [List.take_succ_cons, List.take_zero, List.drop_succ_cons, List.drop_zero]
  repeat (go_big_quiet_step (fail))
  refine wpQuiet_nil ?_
  intro _ hw'
  obtain ⟨k3, hw''⟩ := hw'
  subst hw''
  go_wp2_with fail
  replace st := st.setC (D + ((E ^^^ (A + B)).rotateLeft 16)) k3
  generalize World.setCell (World.drewN _ k3) _ _ = wn at st ⊢
  clear ca cb cc cd fr m0 m1
  have ca := st.cA
  have cb := st.cB
  have cc := st.cC
  have cd := st.cD
  have fr := st.fr
  have m0 := st.m0
  have m1 := st.m1
  refine wp_region_draws_tail 13 (by kernel_rfl) (by kernel_rfl) ?_
  simp only [List.take_succ_cons, List.take_zero, List.drop_succ_cons, List.drop_zero]
  repeat (go_big_quiet_step ((go_at_call 135; exact Calls.quiet_of (left12 _ _))))
  refine wpQuiet_nil ?_
  intro _ hw'
  obtain ⟨k4, hw''⟩ := hw'
  subst hw''
  go_wp2_with fail
  replace st := st.setB ((B ^^^ (D + ((E ^^^ (A + B)).rotateLeft 16))).rotateLeft 12) k4
  generalize World.setCell (World.drewN _ k4) _ _ = wn at st ⊢
  clear ca cb cc cd fr m0 m1
  have ca := st.cA
  have cb := st.cB
  have cc := st.cC
  have cd := st.cD
  have fr := st.fr
  have m0 := st.m0
  have m1 := st.m1
  generalize ha1 : A + B = A1 at *
  generalize hd1 : (E ^^^ A1).rotateLeft 16 = E1 at *
  generalize hc1 : D + E1 = D1 at *
  generalize hb1 : (B ^^^ D1).rotateLeft 12 = B1 at *
  rw [rounds_succ]
  go_wp2_with fail
  refine wp_region_draws_tail 12 (by kernel_rfl) (by kernel_rfl) ?_
  simp only [List.take_succ_cons, List.take_zero, List.drop_succ_cons, List.drop_zero]
  repeat (go_big_quiet_step (fail))
  refine wpQuiet_nil ?_
  intro _ hw'
  obtain ⟨k5, hw''⟩ := hw'
  subst hw''
  go_wp2_with fail
  replace st := st.setA (A1 + B1) k5
  generalize World.setCell (World.drewN _ k5) _ _ = wn at st ⊢
  clear ca cb cc cd fr m0 m1
  have ca := st.cA
  have cb := st.cB
  have cc := st.cC
  have cd := st.cD
  have fr := st.fr
  have m0 := st.m0
  have m1 := st.m1
  refine wp_region_draws_tail 14 (by kernel_rfl) (by kernel_rfl) ?_
  simp only [List.take_succ_cons, List.take_zero, List.drop_succ_cons, List.drop_zero]
  repeat (go_big_quiet_step ((go_at_call 135; exact Calls.quiet_of (left8 _ _))))
  refine wpQuiet_nil ?_
  intro _ hw'
  obtain ⟨k6, hw''⟩ := hw'
  subst hw''
  go_wp2_with fail
  replace st := st.setD ((E1 ^^^ (A1 + B1)).rotateLeft 8) k6
  generalize World.setCell (World.drewN _ k6) _ _ = wn at st ⊢
  clear ca cb cc cd fr m0 m1
  have ca := st.cA
  have cb := st.cB
  have cc := st.cC
  have cd := st.cD
  have fr := st.fr
  have m0 := st.m0
  have m1 := st.m1
  refine wp_region_draws_tail 12 (by kernel_rfl) (by kernel_rfl) ?_
  simp only [List.take_succ_cons, List.take_zero, List.drop_succ_cons, List.drop_zero]
  repeat (go_big_quiet_step (fail))
  refine wpQuiet_nil ?_
  intro _ hw'
  obtain ⟨k7, hw''⟩ := hw'
  subst hw''
  go_wp2_with fail
  replace st := st.setC (D1 + ((E1 ^^^ (A1 + B1)).rotateLeft 8)) k7
  generalize World.setCell (World.drewN _ k7) _ _ = wn at st ⊢
  clear ca cb cc cd fr m0 m1
  have ca := st.cA
  have cb := st.cB
  have cc := st.cC
  have cd := st.cD
  have fr := st.fr
  have m0 := st.m0
  have m1 := st.m1
  refine wp_region_draws_tail 13 (by kernel_rfl) (by kernel_rfl) ?_
  simp only [List.take_succ_cons, List.take_zero, List.drop_succ_cons, List.drop_zero]
  repeat (go_big_quiet_step ((go_at_call 135; exact Calls.quiet_of (left7 _ _))))
  refine wpQuiet_nil ?_
  intro _ hw'
  obtain ⟨k8, hw''⟩ := hw'
  subst hw''
  go_wp2_with fail
  replace st := st.setB ((B1 ^^^ (D1 + ((E1 ^^^ (A1 + B1)).rotateLeft 8))).rotateLeft 7) k8
  generalize World.setCell (World.drewN _ k8) _ _ = wn at st ⊢
  clear ca cb cc cd fr m0 m1
  have ca := st.cA
  have cb := st.cB
  have cc := st.cC
  have cd := st.cD
  have fr := st.fr
  have m0 := st.m0
  have m1 := st.m1
  rw [rounds_succ]
  go_wp2_with fail
  refine bodyPost_end (results_none rfl _ _ _) rfl ⟨rfl, st.grown, ?_⟩
  have hrow := st.row
  subst ha1 hd1 hc1 hb1
  exact hrow
end Go.Proofs.YtfckjilhkdlpfaaGreatDoor

namespace Go.Proofs.YtfckjilhkdlpfaaGreatDoor
open Go.RowKit MS
attribute [local go_sem] w_add w_xor w_or w_and w_sub
theorem wpAny_take_atCh {P : Program} {ops : Array Oper} {md : Region.Mode} {Q : Exit → Act → World → Prop} {i d : Nat} {oi : Oper} {v : Value} {fuel : Nat} {listed : Array Bool} {a : Act} {w : World} (hi : ops[i]? = some oi)
    (hs : Region.noSelect ops = true) (hf : Region.free md ops listed i = true) (hr : (Region.ready md ops listed).contains i = true)
    (hQ : ∀ c a w, Q (.panic c) (a.put (some d) v) w → Q (.panic c) a w) (hd : oi.dst = some d) (hy : Yields P ops oi v a)
    (h : wpAny P md ops Q fuel (listed.setIfInBounds i true) (a.put (some d) v) w) : wpAny P md ops Q (fuel + 1) listed a w :=
  wpAny_take hi hs hf hr (by rw [hd]; exact hQ) hy (by rw [hd]; exact h)

section
variable {ia ib ic id : Nat} {cs : Array Value} {A B D E : W32}
theorem updA (hab : ia ≠ ib) (hac : ia ≠ ic) (had : ia ≠ id) (X : W32) : (updCh cs ia ib ic id A B D E).setIfInBounds ia (.int .u32 (wv X)) = updCh cs ia ib ic id X B D E := by
  unfold updCh
  rw [Array.setIfInBounds_comm _ _ (Ne.symm had), Array.setIfInBounds_comm _ _ (Ne.symm hac), Array.setIfInBounds_comm _ _ (Ne.symm hab), Array.setIfInBounds_setIfInBounds]
theorem updB (hbc : ib ≠ ic) (hbd : ib ≠ id) (X : W32) : (updCh cs ia ib ic id A B D E).setIfInBounds ib (.int .u32 (wv X)) = updCh cs ia ib ic id A X D E := by
  unfold updCh
  rw [Array.setIfInBounds_comm _ _ (Ne.symm hbd), Array.setIfInBounds_comm _ _ (Ne.symm hbc), Array.setIfInBounds_setIfInBounds]
theorem updC (hcd : ic ≠ id) (X : W32) : (updCh cs ia ib ic id A B D E).setIfInBounds ic (.int .u32 (wv X)) = updCh cs ia ib ic id A B X E := by
  unfold updCh
  rw [Array.setIfInBounds_comm _ _ (Ne.symm hcd), Array.setIfInBounds_setIfInBounds]
theorem updD (X : W32) : (updCh cs ia ib ic id A B D E).setIfInBounds id (.int .u32 (wv X)) = updCh cs ia ib ic id A B D X := by
  unfold updCh
  rw [Array.setIfInBounds_setIfInBounds]
end
theorem grown_set1 {w0 w : World} {b : Nat} (h : w0.grownBy w (some b)) (i : Nat) (v : Value) : w0.grownBy (w.setCell ⟨b, i, none⟩ v) (some b) := grown_setCh h 0 i v

set_option maxHeartbeats 2000000 in
theorem turn_upd (b T ia ib ic id : Nat) (cs : Array Value) (A B D E : W32) (w : World) (hs : cs.size = 16)
    (hab : ia ≠ ib) (hac : ia ≠ ic) (had : ia ≠ id) (hbc : ib ≠ ic) (hbd : ib ≠ id) (hcd : ic ≠ id)
    (ha : ia < 16) (hb : ib < 16) (hc : ic < 16) (hd : id < 16) (hr : w.heap[b]? = some (.cells (updCh cs ia ib ic id A B D E) T (0, 0))) :
    Calls Tryz.prog 127 #[.pointer (some ⟨b, 0, none⟩), .int .i64 ia, .int .i64 ib, .int .i64 ic, .int .i64 id] w fun e w' => e = .returned (.tuple #[]) ∧ w.grownBy w' (some b) ∧ w'.heap[b]? = some (.cells (updCh cs ia ib ic id (qa A B D E) (qb A B D E) (qc A B D E) (qd A B D E)) T (0, 0)) := by
  have st : QSt b ia ib ic id w.heap.size T cs w (w.alloc (.cells #[.int .i64 16, .int .i64 8] 3 (0, 0))) A B D E :=
    ⟨hab, hac, had, hbc, hbd, hcd, by omega, by omega, by omega, by omega, by have := (Array.getElem?_eq_some_iff.1 hr).1; omega, ((MapKept.heap_alloc w _).2 b (Array.getElem?_eq_some_iff.1 hr).1).trans hr, (MapKept.heap_alloc w _).1, World.grownBy_alloc w _ _⟩
  have gl : b < w.heap.size := (Array.getElem?_eq_some_iff.1 hr).1
  have ca : w.cell? ⟨b, ia, none⟩ = some (.int .u32 (wv A)) := by rw [cell_of_row w b ia _ _ _ hr, ← cell_of_row _ b ia _ _ _ st.row]; exact st.cA
  have cb : w.cell? ⟨b, ib, none⟩ = some (.int .u32 (wv B)) := by rw [cell_of_row w b ib _ _ _ hr, ← cell_of_row _ b ib _ _ _ st.row]; exact st.cB
  have cc : w.cell? ⟨b, ic, none⟩ = some (.int .u32 (wv D)) := by rw [cell_of_row w b ic _ _ _ hr, ← cell_of_row _ b ic _ _ _ st.row]; exact st.cC
  have cd : w.cell? ⟨b, id, none⟩ = some (.int .u32 (wv E)) := by rw [cell_of_row w b id _ _ _ hr, ← cell_of_row _ b id _ _ _ st.row]; exact st.cD
  have fr : ∀ i, w.frozen? ⟨b, i, none⟩ = false := fun i => frozen_of_row w b i _ _ hr
  clear st
  have na : (0:Int) ≤ ia := by omega
  have nb : (0:Int) ≤ ib := by omega
  have nc : (0:Int) ≤ ic := by omega
  have nd : (0:Int) ≤ id := by omega
  have ja : (ia:Int) < 16 := by omega
  have jb : (ib:Int) < 16 := by omega
  have jc : (ic:Int) < 16 := by omega
  have jd : (id:Int) < 16 := by omega
  have HR := Lib.hid hr
  have HQ := Lib.hid (fun w => quarter_any A B D E w)
  clear hr
  generalize hx : qa A B D E = x at HQ ⊢
  generalize hy : qb A B D E = y at HQ ⊢
  generalize hz : qc A B D E = z at HQ ⊢
  generalize hv : qd A B D E = v at HQ ⊢
  clear hx hy hz hv
  go_enter Tryz.func127, Tryz.ntmps127
  go_wp2_with fail
  refine wp_region_any (by kernel_rfl) ?_
  change wpAny _ _ _ _ _ _ _ (World.drew _)
  refine wpAny_take_atCh (i := 0) (d := 11) (v := (.pointer (some ⟨b, 0, none⟩))) rfl (by kernel_rfl) (by kernel_rfl) (by kernel_rfl) (fun _ _ _ h => h) rfl (Or.inl ⟨by rfl, by intro w; go_simp⟩) ?_
  refine wpAny_take_atCh (i := 1) (d := 12) (v := (.int .i64 ia)) rfl (by kernel_rfl) (by kernel_rfl) (by kernel_rfl) (fun _ _ _ h => h) rfl (Or.inl ⟨by rfl, by intro w; go_simp⟩) ?_
  refine wpAny_take_atCh (i := 2) (d := 13) (v := (.pointer (some ⟨b, 0, none⟩))) rfl (by kernel_rfl) (by kernel_rfl) (by kernel_rfl) (fun _ _ _ h => h) rfl (Or.inl ⟨by rfl, by intro w; go_simp⟩) ?_
  refine wpAny_take_atCh (i := 3) (d := 14) (v := (.int .i64 ib)) rfl (by kernel_rfl) (by kernel_rfl) (by kernel_rfl) (fun _ _ _ h => h) rfl (Or.inl ⟨by rfl, by intro w; go_simp⟩) ?_
  refine wpAny_take_atCh (i := 4) (d := 15) (v := (.pointer (some ⟨b, 0, none⟩))) rfl (by kernel_rfl) (by kernel_rfl) (by kernel_rfl) (fun _ _ _ h => h) rfl (Or.inl ⟨by rfl, by intro w; go_simp⟩) ?_
  refine wpAny_take_atCh (i := 5) (d := 16) (v := (.int .i64 ic)) rfl (by kernel_rfl) (by kernel_rfl) (by kernel_rfl) (fun _ _ _ h => h) rfl (Or.inl ⟨by rfl, by intro w; go_simp⟩) ?_
  refine wpAny_take_atCh (i := 6) (d := 17) (v := (.pointer (some ⟨b, 0, none⟩))) rfl (by kernel_rfl) (by kernel_rfl) (by kernel_rfl) (fun _ _ _ h => h) rfl (Or.inl ⟨by rfl, by intro w; go_simp⟩) ?_
  refine wpAny_take_atCh (i := 7) (d := 18) (v := (.int .i64 id)) rfl (by kernel_rfl) (by kernel_rfl) (by kernel_rfl) (fun _ _ _ h => h) rfl (Or.inl ⟨by rfl, by intro w; go_simp⟩) ?_
  refine wpAny_take_atCh (i := 34) (d := 44) (v := (.pointer (some ⟨b, 0, none⟩))) rfl (by kernel_rfl) (by kernel_rfl) (by kernel_rfl) (fun _ _ _ h => h) rfl (Or.inl ⟨by rfl, by intro w; go_simp⟩) ?_
  refine wpAny_take_atCh (i := 37) (d := 46) (v := (.pointer (some ⟨b, 0, none⟩))) rfl (by kernel_rfl) (by kernel_rfl) (by kernel_rfl) (fun _ _ _ h => h) rfl (Or.inl ⟨by rfl, by intro w; go_simp⟩) ?_
  refine wpAny_take_atCh (i := 40) (d := 48) (v := (.pointer (some ⟨b, 0, none⟩))) rfl (by kernel_rfl) (by kernel_rfl) (by kernel_rfl) (fun _ _ _ h => h) rfl (Or.inl ⟨by rfl, by intro w; go_simp⟩) ?_
  refine wpAny_take_atCh (i := 43) (d := 50) (v := (.pointer (some ⟨b, 0, none⟩))) rfl (by kernel_rfl) (by kernel_rfl) (by kernel_rfl) (fun _ _ _ h => h) rfl (Or.inl ⟨by rfl, by intro w; go_simp⟩) ?_
  simp only [Act.put, List.setIfInBounds_toArray, List.set_cons_zero, List.set_cons_succ]
  refine wpAny_quiet_mid (fun w' => ∃ k, w' = w.drewN k) #[true, true, true, true, true, true, true, true, true, true, true, true, true, true, true, true, true, true, true, true, true, true, true, true, true, true, true, true, true, true, false, false, false, false, true, false, false, true, false, false, true, false, false, true, false, false] 8 22 12 (by kernel_rfl) (by kernel_rfl) (by kernel_rfl) (by kernel_rfl) rfl ⟨1, rfl⟩ ?_
  simp only [List.take_succ_cons, List.take_zero, List.drop_succ_cons, List.drop_zero]
  repeat (go_big_quiet_step ((go_at_call 138; exact Calls.quiet_of ((HQ.out _).mono (fun _ _ h => ⟨h.1, 0, h.2.symm⟩)))))
  refine wpQuiet_nil ?_
  intro _ hw'
  obtain ⟨k, hw''⟩ := hw'
  subst hw''
  refine wpAny_take_atCh (i := 30) (d := 40) (v := (.int .u32 (wv x))) rfl (by kernel_rfl) (by kernel_rfl) (by kernel_rfl) (fun _ _ _ h => h) rfl (Or.inl ⟨by rfl, by intro w; go_simp⟩) ?_
  refine wpAny_take_atCh (i := 31) (d := 41) (v := (.int .u32 (wv y))) rfl (by kernel_rfl) (by kernel_rfl) (by kernel_rfl) (fun _ _ _ h => h) rfl (Or.inl ⟨by rfl, by intro w; go_simp⟩) ?_
  refine wpAny_take_atCh (i := 32) (d := 42) (v := (.int .u32 (wv z))) rfl (by kernel_rfl) (by kernel_rfl) (by kernel_rfl) (fun _ _ _ h => h) rfl (Or.inl ⟨by rfl, by intro w; go_simp⟩) ?_
  refine wpAny_take_atCh (i := 33) (d := 43) (v := (.int .u32 (wv v))) rfl (by kernel_rfl) (by kernel_rfl) (by kernel_rfl) (fun _ _ _ h => h) rfl (Or.inl ⟨by rfl, by intro w; go_simp⟩) ?_
  refine wpAny_take_atCh (i := 35) (d := 45) (v := (.pointer (some ⟨b, ia, none⟩))) rfl (by kernel_rfl) (by kernel_rfl) (by kernel_rfl) (fun _ _ _ h => h) rfl (Or.inl ⟨by rfl, by intro w; go_simp⟩) ?_
  refine wpAny_ready (rs := [36]) (by kernel_rfl) (by simp) ?_
  refine AllReady.cons rfl (fun K hK => ?_) AllReady.nil
  go_simp
  refine hK _ _ ?_
  clear hK K
  refine wpAny_take_atCh (i := 38) (d := 47) (v := (.pointer (some ⟨b, ib, none⟩))) rfl (by kernel_rfl) (by kernel_rfl) (by kernel_rfl) (fun _ _ _ h => h) rfl (Or.inl ⟨by rfl, by intro w; go_simp⟩) ?_
  refine wpAny_ready (rs := [39]) (by kernel_rfl) (by simp) ?_
  refine AllReady.cons rfl (fun K hK => ?_) AllReady.nil
  go_simp
  refine hK _ _ ?_
  clear hK K
  refine wpAny_take_atCh (i := 41) (d := 49) (v := (.pointer (some ⟨b, ic, none⟩))) rfl (by kernel_rfl) (by kernel_rfl) (by kernel_rfl) (fun _ _ _ h => h) rfl (Or.inl ⟨by rfl, by intro w; go_simp⟩) ?_
  refine wpAny_ready (rs := [42]) (by kernel_rfl) (by simp) ?_
  refine AllReady.cons rfl (fun K hK => ?_) AllReady.nil
  go_simp
  refine hK _ _ ?_
  clear hK K
  refine wpAny_take_atCh (i := 44) (d := 51) (v := (.pointer (some ⟨b, id, none⟩))) rfl (by kernel_rfl) (by kernel_rfl) (by kernel_rfl) (fun _ _ _ h => h) rfl (Or.inl ⟨by rfl, by intro w; go_simp⟩) ?_
  refine wpAny_ready (rs := [45]) (by kernel_rfl) (by simp) ?_
  refine AllReady.cons rfl (fun K hK => ?_) AllReady.nil
  go_simp
  refine hK _ _ ?_
  clear hK K
  refine wpAny_done (by kernel_rfl) ?_ _
  refine bodyPost_end (results_none rfl _ _ _) rfl ⟨rfl, ?_, ?_⟩
  · exact grown_set1 (grown_set1 (grown_set1 (grown_setCh (World.grownBy.refl w (some b)) k ia _) ib _) ic _) id _
  · have h1 := row_setCh HR.out k ia (.int .u32 (wv x))
    have h2 := heap_setCell_same _ b ib _ T (.int .u32 (wv y)) h1
    have h3 := heap_setCell_same _ b ic _ T (.int .u32 (wv z)) h2
    have h4 := heap_setCell_same _ b id _ T (.int .u32 (wv v)) h3
    rw [updA hab hac had, updB hbc hbd, updC hcd, updD] at h4
    exact h4
end Go.Proofs.YtfckjilhkdlpfaaGreatDoor

namespace Go.Proofs.YtfckjilhkdlpfaaGreatDoor
open Go.RowKit MS
def rowWCh (s : Array W32) : Array Value := s.map (fun x => .int .u32 (wv x))
def qr (s : Array W32) (i j k l : Nat) : Array W32 :=
  (((s.setIfInBounds i (qa (s.getD i 0) (s.getD j 0) (s.getD k 0) (s.getD l 0))).setIfInBounds j (qb (s.getD i 0) (s.getD j 0) (s.getD k 0) (s.getD l 0))).setIfInBounds k (qc (s.getD i 0) (s.getD j 0) (s.getD k 0) (s.getD l 0))).setIfInBounds l (qd (s.getD i 0) (s.getD j 0) (s.getD k 0) (s.getD l 0))

theorem size_rowWCh (s : Array W32) : (rowWCh s).size = s.size := by simp [rowWCh]
theorem size_qr (s : Array W32) (i j k l : Nat) : (qr s i j k l).size = s.size := by simp [qr]
theorem rowW_setCh (s : Array W32) (i : Nat) (x : W32) : (rowWCh s).setIfInBounds i (.int .u32 (wv x)) = rowWCh (s.setIfInBounds i x) := by
  simp [rowWCh, Array.map_setIfInBounds]
theorem set_getD (s : Array W32) (i : Nat) : s.setIfInBounds i (s.getD i 0) = s := by
  apply Array.ext_getElem?
  intro j
  by_cases h : i = j
  · subst h
    by_cases hi : i < s.size
    · simp [hi]
    · simp [hi]
  · simp [h]
theorem upd_self (s : Array W32) (i j k l : Nat) : updCh (rowWCh s) i j k l (s.getD i 0) (s.getD j 0) (s.getD k 0) (s.getD l 0) = rowWCh s := by
  unfold updCh
  rw [rowW_setCh, set_getD, rowW_setCh, set_getD, rowW_setCh, set_getD, rowW_setCh, set_getD]
theorem upd_qr (s : Array W32) (i j k l : Nat) (a b c d : W32) : updCh (rowWCh s) i j k l a b c d = rowWCh ((((s.setIfInBounds i a).setIfInBounds j b).setIfInBounds k c).setIfInBounds l d) := by
  unfold updCh
  rw [rowW_setCh, rowW_setCh, rowW_setCh, rowW_setCh]

theorem turn16 (b T i j k l : Nat) (s : Array W32) (w : World) (hs : s.size = 16) (h : i ≠ j ∧ i ≠ k ∧ i ≠ l ∧ j ≠ k ∧ j ≠ l ∧ k ≠ l ∧ i < 16 ∧ j < 16 ∧ k < 16 ∧ l < 16) (hr : w.heap[b]? = some (.cells (rowWCh s) T (0, 0))) :
    Calls Tryz.prog 127 #[.pointer (some ⟨b, 0, none⟩), .int .i64 i, .int .i64 j, .int .i64 k, .int .i64 l] w fun e w' => e = .returned (.tuple #[]) ∧ w.grownBy w' (some b) ∧ w'.heap[b]? = some (.cells (rowWCh (qr s i j k l)) T (0, 0)) := by
  obtain ⟨h1, h2, h3, h4, h5, h6, h7, h8, h9, h10⟩ := h
  have := turn_upd b T i j k l (rowWCh s) (s.getD i 0) (s.getD j 0) (s.getD k 0) (s.getD l 0) w (by rw [size_rowWCh, hs]) h1 h2 h3 h4 h5 h6 h7 h8 h9 h10 (by rw [upd_self]; exact hr)
  rwa [upd_qr] at this

theorem rq16 (b C T i j k l : Nat) (s : Array W32) (w : World) (hs : s.size = 16) (h : i ≠ j ∧ i ≠ k ∧ i ≠ l ∧ j ≠ k ∧ j ≠ l ∧ k ≠ l ∧ i < 16 ∧ j < 16 ∧ k < 16 ∧ l < 16) (hr : w.heap[b]? = some (.cells (rowWCh s) T (0, 0))) :
    Calls Tryz.prog 113 #[.slice (some ⟨b, 0, none⟩) 16 C, .int .i64 i, .int .i64 j, .int .i64 k, .int .i64 l] w fun e w' => e = .returned (.tuple #[]) ∧ w.grownBy w' (some b) ∧ w'.heap[b]? = some (.cells (rowWCh (qr s i j k l)) T (0, 0)) := by
  obtain ⟨h1, h2, h3, h4, h5, h6, h7, h8, h9, h10⟩ := h
  have hz : (rowWCh s).size = 16 := by rw [size_rowWCh, hs]
  have := rq_any b C T i j k l (rowWCh s) (s.getD i 0) (s.getD j 0) (s.getD k 0) (s.getD l 0) w h1 h2 h3 h4 h5 h6 (by omega) (by omega) (by omega) (by omega) (by rw [upd_self]; exact hr)
  rw [hz, upd_qr] at this
  exact this

/-- A double round. -/
def dr (s : Array W32) : Array W32 :=
  qr (qr (qr (qr (qr (qr (qr (qr s 0 4 8 12) 1 5 9 13) 2 6 10 14) 3 7 11 15) 0 5 10 15) 1 6 11 12) 2 7 8 13) 3 4 9 14
theorem size_dr (s : Array W32) : (dr s).size = s.size := by simp only [dr, size_qr]
def drs : Nat → Array W32 → Array W32
  | 0, s => s
  | n + 1, s => dr (drs n s)
theorem size_drs (n : Nat) (s : Array W32) : (drs n s).size = s.size := by
  induction n with
  | zero => rfl
  | succ n ih => rw [drs, size_dr, ih]
end Go.Proofs.YtfckjilhkdlpfaaGreatDoor

namespace Go.Proofs.YtfckjilhkdlpfaaGreatDoor
open Go.RowKit MS
theorem run_index_rowCh (t : Array W32) (hz : t.size = 16) (j : Nat) (hj : j < 16) (w : World) : (Instr.index 123 (.agg (rowWCh t)) (.int .i64 j)).run Tryz.prog w = .ok (.int .u32 (wv (t.getD j 0))) w := by
  have hn : (0 : Int) ≤ j ∧ (j : Int) < 16 := by omega
  have hi : (Tryz.prog.info? 86).map (·.size) = some 1 := by kernel_rfl
  have hjt : j < t.size := by omega
  cases hq : Tryz.prog.info? 86 with
  | none => simp [hq] at hi
  | some i =>
    have hs : i.size = 1 := by simpa [hq] using hi
    simp [Instr.index, run_underlying Tryz.underlying123, asIntOf, go_sem, sizeOf, typeInfo, hq, hs, hn]
    have hx : (rowWCh t)[j]? = some (.int .u32 (wv (t.getD j 0))) := by simp [rowWCh, hjt]
    rw [if_pos hj, hx]
    simp [hjt]
end Go.Proofs.YtfckjilhkdlpfaaGreatDoor
