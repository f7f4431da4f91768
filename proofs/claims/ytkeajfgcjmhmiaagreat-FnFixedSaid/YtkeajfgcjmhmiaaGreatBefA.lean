/- The fraction at which a piece has a value: the program's back, the reference's imBack. -/
import Derived.Test.YtkeajfgcjmhmiaaGreatBef0
namespace Go.Proofs.YtkeajfgcjmhmiaaGreat
open Go.RowKit

set_option maxRecDepth 100000 in
set_option maxHeartbeats 1600000 in
theorem cBack_is (p1 p2 p3 p4 q1 q2 q3 q4 y1 y2 r1 r2 : Int) (bad bad' : Bool) (g : Nat) (w : World) (hp : CoP ((p1, p2), p3, p4)) (hq : CoP ((q1, q2), q3, q4)) (hl : lessQ p1 p2 q1 q2 = true) (hs : Slot w g 0 (.bool bad))
    (hr : backV ((p1, p2), p3, p4) ((q1, q2), q3, q4) (y1, y2) = (r1, r2)) (hb : (bad || !backT ((p1, p2), p3, p4) ((q1, q2), q3, q4) (y1, y2)) = bad') :
    Calls Tryz.prog 161 #[.pointer (some ⟨g, 0, none⟩), .agg #[.int .i64 p1, .int .i64 p2, .int .i64 p3, .int .i64 p4], .agg #[.int .i64 q1, .int .i64 q2, .int .i64 q3, .int .i64 q4], .agg #[.int .i64 y1, .int .i64 y2]] w (KeepEnd g r1 r2 bad' w) := by
  have hg := lt_of_cell hs.1
  obtain ⟨⟨s1, s2⟩, hsl⟩ : ∃ s, slopeQ ((p1, p2), p3, p4) ((q1, q2), q3, q4) = s := ⟨_, rfl⟩
  have HSl := Lib.hid (slope_is hp.1 hp.2 hq.1 hq.2 hl hsl)
  have bp3 : Sm p3 := (Sm.of_ok (unitQ_ok (coordQ_unit hp.2))).1
  unfold backV backR backM backD at hr
  unfold backT backR backM backD at hb
  simp only [hsl] at hr hb
  obtain ⟨⟨d1, d2⟩, hd⟩ : ∃ d, keepQ (subQ y1 y2 p3 p4) = d := ⟨_, rfl⟩
  rw [hd] at hr hb
  obtain ⟨⟨m1, m2⟩, hm⟩ : ∃ m, keepQ (divQ d1 d2 s1 s2) = m := ⟨_, rfl⟩
  simp only [hm] at hr hb
  have HD := Lib.hid (fun W bd (k : Slot W g 0 (.bool bd)) => cSub_any y1 y2 p3 p4 d1 d2 bd _ g W k (by unfold Sm at bp3; omega) hd rfl)
  have HM := Lib.hid (fun W bd (k : Slot W g 0 (.bool bd)) => cDiv_any d1 d2 s1 s2 m1 m2 bd _ g W k hm rfl)
  have HR := Lib.hid (fun W bd (k : Slot W g 0 (.bool bd)) => cAdd_any p1 p2 m1 m2 r1 r2 bd _ g W k hr rfl)
  have HBd := Lib.hid (show (((bad || !(subQ y1 y2 p3 p4).2.2) || !(divQ d1 d2 s1 s2).2.2) || !(addQ p1 p2 m1 m2).2.2) = bad' from by
    rw [← hb]; cases bad <;> cases (subQ y1 y2 p3 p4).2.2 <;> cases (divQ d1 d2 s1 s2).2.2 <;> cases (addQ p1 p2 m1 m2).2.2 <;> rfl)
  have HS := Lib.hid hs
  clear hp hq hl hs hr hb hsl hd hm bp3
  go_enter Tryz.func161, Tryz.ntmps161
  go_wp2_with fail
  go_name_world W hW
  have kL : Facts [(w.heap.size, 0, .int .i64 p1), (w.heap.size, 1, .int .i64 p2), (w.heap.size, 2, .int .i64 p3), (w.heap.size, 3, .int .i64 p4), (w.heap.size + 1, 0, .int .i64 q1), (w.heap.size + 1, 1, .int .i64 q2), (w.heap.size + 1, 2, .int .i64 q3), (w.heap.size + 1, 3, .int .i64 q4), (w.heap.size + 2, 0, .int .i64 y1), (w.heap.size + 2, 1, .int .i64 y2)] W := by rw [← hW]; simp [Facts, go_sem]
  have R0 : Slot W (w.heap.size + 3) 0 (.int .i64 0) := by rw [← hW]; exact ⟨by simp [go_sem], by simp [go_sem]⟩
  have R1 : Slot W (w.heap.size + 3) 1 (.int .i64 0) := by rw [← hW]; exact ⟨by simp [go_sem], by simp [go_sem]⟩
  have hB : Below w.heap.size w W := by rw [← hW]; go_grown
  have HSW := Lib.hid (slotB hB HS.out)
  have hne : ∀ x ∈ [(w.heap.size, 0, Value.int .i64 p1), (w.heap.size, 1, .int .i64 p2), (w.heap.size, 2, .int .i64 p3), (w.heap.size, 3, .int .i64 p4), (w.heap.size + 1, 0, .int .i64 q1), (w.heap.size + 1, 1, .int .i64 q2), (w.heap.size + 1, 2, .int .i64 q3), (w.heap.size + 1, 3, .int .i64 q4), (w.heap.size + 2, 0, .int .i64 y1), (w.heap.size + 2, 1, .int .i64 y2)], x.1 ≠ g := by simp; omega
  have HNe := Lib.hid hne
  have HR0 := Lib.hid (And.intro R0 R1)
  clear hW hne R0 R1
  go_region_held3 (fun w' => w'.cell? ⟨w.heap.size, 0, none⟩ = some (.int .i64 p1) ∧ w'.cell? ⟨w.heap.size, 1, none⟩ = some (.int .i64 p2) ∧ w'.cell? ⟨w.heap.size, 2, none⟩ = some (.int .i64 p3) ∧ w'.cell? ⟨w.heap.size, 3, none⟩ = some (.int .i64 p4) ∧ w'.cell? ⟨w.heap.size + 1, 0, none⟩ = some (.int .i64 q1) ∧ w'.cell? ⟨w.heap.size + 1, 1, none⟩ = some (.int .i64 q2) ∧ w'.cell? ⟨w.heap.size + 1, 2, none⟩ = some (.int .i64 q3) ∧ w'.cell? ⟨w.heap.size + 1, 3, none⟩ = some (.int .i64 q4) ∧ w'.cell? ⟨w.heap.size + 2, 0, none⟩ = some (.int .i64 y1) ∧ w'.cell? ⟨w.heap.size + 2, 1, none⟩ = some (.int .i64 y2))
    ((first | exact kL4 | exact kL3 | exact kL2 | exact kL1 | exact kL | (refine Facts.keep kL ?_; go_grown; done) | (refine Facts.put (Facts.put kL4 ?_) ?_ <;> (simp; omega))))
    ((first
      | (go_at_call 155; (with_reducible refine (HD.out _ bad (slotB (w1 := _) ?hk1 HSW.out)).mono ?_); (case hk1 => go_grown); rintro e w1 ⟨rfl, g1, k1⟩; have hN1 : But g W w1 := But.next (But.refl g W) (B := W.heap.size) (by go_grown) (Nat.le_refl _) |>.trans k1; have kL1 := Facts.keepU kL hN1 HNe.out)
      | (go_at_call 149; (with_reducible refine (HSl.out _ _).mono ?_); rintro e w2 ⟨rfl, hb2⟩; have hN2 : But g W w2 := hN1.trans (But.of_below hb2 (Nat.le_refl _)); have g2 := slotB hb2 g1; have kL2 := Facts.keepU kL hN2 HNe.out)
      | (go_at_call 178; (with_reducible refine (HM.out _ _ g2).mono ?_); rintro e w3 ⟨rfl, g3, k3⟩; have hN3 := hN2.trans k3; have kL3 := Facts.keepU kL hN3 HNe.out)
      | (go_at_call 176; (with_reducible refine (HR.out _ _ g3).mono ?_); rintro e w4 ⟨rfl, g4, k4⟩; have hN4 := hN3.trans k4; have kL4 := Facts.keepU kL hN4 HNe.out; obtain ⟨q0, z0⟩ := slotU hN4 (new_ne hg 3) HR0.out.1; obtain ⟨q1, z1⟩ := slotU hN4 (new_ne hg 3) HR0.out.2)))
  go_wp2_with fail
  refine bodyPost_ret (v := .agg #[.int .i64 r1, .int .i64 r2]) (by simp [results, Tryz.results161, go_sem, q0, q1]) rfl ⟨rfl, ?_, ?_⟩
  · rw [HBd.out] at g4
    refine slotS (slotS g4 ?_) ?_ <;> simp <;> omega
  · refine But.setNew (But.setNew ((But.of_below hB (Nat.le_refl _)).trans hN4) ?_ _) ?_ _ <;> omega

end Go.Proofs.YtkeajfgcjmhmiaaGreat
