/-
  mailsacklaw06.awake, PolyTags: the walks.
-/
import Derived.Test.YtkfacnegfkgcgaaPWh
import Derived.Test.YtkfacnegfkgcgaaPRf
namespace Go.Proofs.Ytkfacnegfkgcgaa
open Go.RowKit MS

theorem awake_tag : tagB ⟨#[1, 0, 0, 0, 0, 0, 0, 0, 0, 0, 0, 0, 0, 0, 0, 0, 2, 0, 0, 0, 0, 0, 0, 0, 0, 0, 0, 0, 0, 0, 0, 0]⟩ ⟨#[5]⟩ = ⟨#[7, 1, 0, 0, 0, 0, 0, 0, 0, 0, 0, 0, 0, 0, 0, 0]⟩ := by decide +kernel

set_option maxRecDepth 100000 in
set_option maxHeartbeats 1000000 in
theorem awake06_any (w : World) :
    Calls Try.prog 25 #[] w fun e w' => e = .returned (.bool true) ∧ Below w.heap.size w w' := by
  have Y := Lib.hid (fun w => tag_yes ⟨#[1, 0, 0, 0, 0, 0, 0, 0, 0, 0, 0, 0, 0, 0, 0, 0, 2, 0, 0, 0, 0, 0, 0, 0, 0, 0, 0, 0, 0, 0, 0, 0]⟩ ⟨#[5]⟩ w rfl (by decide))
  rw [awake_tag] at Y
  have N := Lib.hid (fun w => tag_no ⟨#[115, 104, 111, 114, 116]⟩ ⟨#[]⟩ (by decide) w)
  go_enter Try.func25, Try.ntmps25
  go_wp2_with fail
  refine (Y.out _).mono ?_
  rintro e w1 ⟨rfl, hb1⟩
  have B1 := Lib.hid hb1
  clear hb1
  go_wp2_with fail
  refine (N.out _).mono ?_
  rintro e w2 ⟨rfl, hb2⟩
  have B2 := Lib.hid (B1.out.trans (hb2.mono B1.out.size))
  clear hb2
  go_wp2_with fail
  go_ret
  exact ⟨rfl, B2.out⟩

set_option maxRecDepth 100000 in
set_option maxHeartbeats 1000000 in
theorem polytags_any (key s : ByteArray) (w : World) :
    Calls Try.prog 9 #[.string key, .string s] w fun e w' => e = .returned (.bool true) ∧ Below w.heap.size w w' := by
  have A := Lib.hid (fun w => awake06_any w)
  by_cases h1 : key.size > 100
  · have t1 : (key.size : Int) > 100 := by omega
    clear h1
    go_enter Try.func9, Try.ntmps9
    go_wp2_with fail
    refine (A.out _).mono ?_
    rintro e w1 ⟨rfl, hb1⟩
    go_wp2_with fail
    go_ret
    exact ⟨rfl, hb1⟩
  · have t1 : ¬ (key.size : Int) > 100 := by omega
    by_cases h2 : s.size > 1024
    · have t2 : (s.size : Int) > 1024 := by omega
      clear h1 h2
      go_enter Try.func9, Try.ntmps9
      go_wp2_with fail
      refine (A.out _).mono ?_
      rintro e w1 ⟨rfl, hb1⟩
      go_wp2_with fail
      go_ret
      exact ⟨rfl, hb1⟩
    · have t2 : ¬ (s.size : Int) > 1024 := by omega
      by_cases h3 : key.size = 32
      · have t3 : ((key.size : Int) != 32) = false := by simp; omega
        have Y := Lib.hid (fun w => tag_yes key s w h3 (by omega))
        have R := Lib.hid (fun w => rtag_any key s w h3 (by omega))
        generalize tagB key s = T at *
        clear h1 h2 h3
        go_enter Try.func9, Try.ntmps9
        go_wp2_with fail
        refine (Y.out _).mono ?_
        rintro e w1 ⟨rfl, hb1⟩
        have B1 := Lib.hid hb1
        clear hb1 Y
        go_wp2_with fail
        refine (R.out _).mono ?_
        rintro e w2 ⟨rfl, hb2⟩
        have B2 := Lib.hid (B1.out.trans (hb2.mono B1.out.size))
        clear hb2 R
        go_wp2_with fail
        refine (A.out _).mono ?_
        rintro e w3 ⟨rfl, hb3⟩
        have B3 := Lib.hid (B2.out.trans (hb3.mono B2.out.size))
        clear hb3
        go_wp2_with fail
        go_ret
        exact ⟨rfl, B3.out⟩
      · have t3 : ((key.size : Int) != 32) = true := by simp; omega
        have N := Lib.hid (fun w => tag_no key s h3 w)
        clear h1 h2 h3
        go_enter Try.func9, Try.ntmps9
        go_wp2_with fail
        refine (N.out _).mono ?_
        rintro e w1 ⟨rfl, hb1⟩
        have B1 := Lib.hid hb1
        clear hb1
        go_wp2_with fail
        refine (A.out _).mono ?_
        rintro e w3 ⟨rfl, hb3⟩
        have B3 := Lib.hid (B1.out.trans (hb3.mono B1.out.size))
        clear hb3
        go_wp2_with fail
        go_ret
        exact ⟨rfl, B3.out⟩
end Go.Proofs.Ytkfacnegfkgcgaa
