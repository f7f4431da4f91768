/- DoCommute of both. -/
import Derived.Test.YtkaekjhcphgldaaGreatComI
import Derived.Test.YtkaekjhcphgldaaGreatComS
import Derived.Test.YtkaekjhcphgldaaGreatSame
namespace Go.Proofs.YtkaekjhcphgldaaGreat
open Go.RowKit

theorem commQ_no {f g : List Pt} {s t : Bool} (hl : commQ f g = (s, t)) (h : ((composeQ f g).2 && (composeQ g f).2) = false) : false = s ∧ false = t := by
  unfold commQ at hl; rw [if_neg (by rw [h]; simp)] at hl; exact Prod.mk.inj hl
theorem commQ_yes {f g : List Pt} {s t : Bool} (hl : commQ f g = (s, t)) (h : ((composeQ f g).2 && (composeQ g f).2) = true) : decide ((composeQ f g).1 = (composeQ g f).1) = s ∧ true = t := by
  unfold commQ at hl; rw [if_pos h] at hl; exact Prod.mk.inj hl
theorem composeQ_map {f g : List Pt} (h : (okMap f && okMap g) = false) : composeQ f g = ([], false) := by
  unfold composeQ; rw [if_neg (by rw [h]; simp)]
theorem composeQ_com {f g : List Pt} (h : (okMap f && okMap g) = true) : composeQ f g = comQ f g := by
  unfold composeQ; rw [if_pos h]

set_option maxHeartbeats 1600000 in
theorem iDoCommute_is (f g : List Pt) (vf vg : Value) (s t : Bool) (hl : commQ f g = (s, t)) (w : World) (hf : RdP w vf f) (hg : RdP w vg g) (hn : f.length ≤ 1048576) (hk : g.length ≤ 1048576) :
    Calls Tryz.prog 18 #[vf, vg] w (fun e w' => e = .returned (.tuple #[.bool s, .bool t]) ∧ Below w.heap.size w w') := by
  have HF := Lib.hid hf
  have HG := Lib.hid hg
  have HL := Lib.hid hl
  rcases h1 : composeQ f g with ⟨m1, t1⟩
  rcases h2 : composeQ g f with ⟨m2, t2⟩
  have H1 := Lib.hid h1
  have H2 := Lib.hid h2
  have HT := Lib.hid (show ((composeQ f g).2 && (composeQ g f).2) = (t1 && t2) by rw [h1, h2])
  have HD := Lib.hid (show decide ((composeQ f g).1 = (composeQ g f).1) = decide (m1 = m2) by rw [h1, h2])
  clear hl hf hg h1 h2
  go_enter Tryz.func18, Tryz.ntmps18
  go_wp2_with fail
  refine (iComposeMaps_is f g vf vg m1 t1 H1.out _ (HF.out.keep (by go_grown)) (HG.out.keep (by go_grown)) hn hk).mono ?_
  rintro e w1 ⟨r1, rfl, ow1, hb⟩
  have hB : Below w.heap.size w w1 := nextX (by go_grown) hb
  have HO1 := Lib.hid ow1.read
  clear ow1 hb
  go_wp2_with fail
  refine (iComposeMaps_is g f vg vf m2 t2 H2.out _ (HG.out.keep (nextX hB (by go_grown))) (HF.out.keep (nextX hB (by go_grown))) hk hn).mono ?_
  rintro e w2 ⟨r2, rfl, ow2, hb⟩
  have hX : Below w1.heap.size w1 w2 := nextX (by go_grown) hb
  have HO2 := Lib.hid ow2.read
  have HO3 := Lib.hid (HO1.out.keep hX)
  replace hB := nextX hB hX
  clear ow2 hb hX HO1
  rcases t1 with _ | _
  · obtain ⟨rfl, rfl⟩ := commQ_no HL.out HT.out
    go_wp2_with fail
    go_ret2
    exact ⟨rfl, hB⟩
  · rcases t2 with _ | _
    · obtain ⟨rfl, rfl⟩ := commQ_no HL.out HT.out
      go_wp2_with fail
      go_ret2
      exact ⟨rfl, hB⟩
    · obtain ⟨hs, rfl⟩ := commQ_yes HL.out HT.out
      rw [HD.out] at hs
      have HS := Lib.hid hs
      clear hs
      go_wp2_with fail
      refine (equalPts m1 m2 _ _ _ (HO3.out.keep (by go_grown)) (HO2.out.keep (by go_grown))).mono ?_
      rintro e w3 ⟨he, hb⟩
      rw [HS.out] at he
      subst he
      have hB3 : Below w.heap.size w w3 := nextX hB (nextX (by go_grown) hb)
      clear hb
      go_wp2_with fail
      go_ret2
      exact ⟨rfl, hB3⟩

set_option maxHeartbeats 1600000 in
theorem sDoCommute_is (f g : List Pt) (vf vg : Value) (s t : Bool) (hl : commQ f g = (s, t)) (w : World) (hf : RdP w vf f) (hg : RdP w vg g) (hn : f.length ≤ 1048576) (hk : g.length ≤ 1048576) :
    Calls Tryz.prog 17 #[vf, vg] w (fun e w' => e = .returned (.tuple #[.bool s, .bool t]) ∧ Below w.heap.size w w') := by
  have HF := Lib.hid hf
  have HG := Lib.hid hg
  have HL := Lib.hid hl
  rcases hm : (okMap f && okMap g) with _ | _
  · obtain ⟨rfl, rfl⟩ := commQ_no hl (by rw [composeQ_map hm]; rfl)
    have HM := Lib.hid hm
    clear hf hg hl hm
    go_enter Tryz.func17, Tryz.ntmps17
    go_wp2_with fail
    refine (coTwo_is f g _ _ false HM.out _ (HF.out.keep (by go_grown)) (HG.out.keep (by go_grown)) hn hk).mono ?_
    rintro e w1 ⟨rfl, hb⟩
    go_wp2_with fail
    go_ret2
    exact ⟨rfl, hb⟩
  · have hm2 : (okMap g && okMap f) = true := by rw [Bool.and_comm]; exact hm
    have HM := Lib.hid hm
    have HMF := Lib.hid (show okMap f = true by simp at hm; exact hm.1)
    have HMG := Lib.hid (show okMap g = true by simp at hm; exact hm.2)
    rcases h1 : comQ f g with ⟨m1, t1⟩
    rcases h2 : comQ g f with ⟨m2, t2⟩
    have H1 := Lib.hid h1
    have H2 := Lib.hid h2
    have HT := Lib.hid (show ((composeQ f g).2 && (composeQ g f).2) = (t1 && t2) by rw [composeQ_com hm, composeQ_com hm2, h1, h2])
    have HD := Lib.hid (show decide ((composeQ f g).1 = (composeQ g f).1) = decide (m1 = m2) by rw [composeQ_com hm, composeQ_com hm2, h1, h2])
    clear hf hg hl hm hm2 h1 h2
    go_enter Tryz.func17, Tryz.ntmps17
    go_wp2_with fail
    refine (coTwo_is f g _ _ true HM.out _ (HF.out.keep (by go_grown)) (HG.out.keep (by go_grown)) hn hk).mono ?_
    rintro e w1 ⟨rfl, hb⟩
    have hB : Below w.heap.size w w1 := hb
    clear hb
    go_wp2_with fail
    refine (coCompose_is f g _ _ m1 t1 H1.out _ (HF.out.keep (nextX hB (by go_grown))) (HG.out.keep (nextX hB (by go_grown))) HMF.out HMG.out).mono ?_
    rintro e w2 ⟨r1, rfl, ow1, hb⟩
    have hX : Below w1.heap.size w1 w2 := nextX (by go_grown) hb
    have HO1 := Lib.hid ow1.read
    replace hB := nextX hB hX
    clear ow1 hb hX
    go_wp2_with fail
    refine (coCompose_is g f _ _ m2 t2 H2.out _ (HG.out.keep (nextX hB (by go_grown))) (HF.out.keep (nextX hB (by go_grown))) HMG.out HMF.out).mono ?_
    rintro e w3 ⟨r2, rfl, ow2, hb⟩
    have hX : Below w2.heap.size w2 w3 := nextX (by go_grown) hb
    have HO2 := Lib.hid ow2.read
    have HO3 := Lib.hid (HO1.out.keep hX)
    replace hB := nextX hB hX
    clear ow2 hb hX HO1
    rcases t1 with _ | _
    · obtain ⟨rfl, rfl⟩ := commQ_no HL.out HT.out
      go_wp2_with fail
      go_ret2
      exact ⟨rfl, hB⟩
    · rcases t2 with _ | _
      · obtain ⟨rfl, rfl⟩ := commQ_no HL.out HT.out
        go_wp2_with fail
        go_ret2
        exact ⟨rfl, hB⟩
      · obtain ⟨hs, rfl⟩ := commQ_yes HL.out HT.out
        rw [HD.out] at hs
        have HS := Lib.hid hs
        clear hs
        go_wp2_with fail
        refine (coEqual_is m1 m2 _ _ _ (HO3.out.keep (by go_grown)) (HO2.out.keep (by go_grown))).mono ?_
        rintro e w4 ⟨he, hb⟩
        rw [HS.out] at he
        subst he
        have hB3 : Below w.heap.size w w4 := nextX hB (nextX (by go_grown) hb)
        clear hb
        go_wp2_with fail
        go_ret2
        exact ⟨rfl, hB3⟩

end Go.Proofs.YtkaekjhcphgldaaGreat
