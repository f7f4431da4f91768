/- Drawn orbits: DrawIterateMap, DrawOrbitOf, DrawVisitsOf, DrawOrbitDistance. -/
import Derived.Test.YtkeajfgcjmhmiaaGreatDrF
namespace Go.Proofs.YtkeajfgcjmhmiaaGreat
open Go.RowKit

/-- A row of points, a fraction and a number. -/
def RowRatInt (w : World) (e : Ending) (w' : World) : Prop := ∃ (r : Value) (ps : List Pt) (a b n : Int), e = .returned (.tuple #[r, .agg #[.int .i64 a, .int .i64 b], .int .i64 n]) ∧ OwP w.heap.size 51 w' r ps ∧ ps.length ≤ 62 ∧ Below w.heap.size w w'
def RowRatsInt (w : World) (e : Ending) (w' : World) : Prop := ∃ (r : Value) (ps : List Pt) (a b c d n : Int), e = .returned (.tuple #[r, .agg #[.int .i64 a, .int .i64 b], .agg #[.int .i64 c, .int .i64 d], .int .i64 n]) ∧ OwP w.heap.size 51 w' r ps ∧ ps.length ≤ 62 ∧ Below w.heap.size w w'
def RowVis (w : World) (e : Ending) (w' : World) : Prop := ∃ (r : Value) (ps : List Pt) (x1 x2 n a b c d : Int), e = .returned (.tuple #[r, .agg #[.int .i64 x1, .int .i64 x2], .int .i64 n, .agg #[.int .i64 a, .int .i64 b], .agg #[.int .i64 c, .int .i64 d]]) ∧ OwP w.heap.size 51 w' r ps ∧ ps.length ≤ 62 ∧ Below w.heap.size w w'

set_option maxRecDepth 100000 in
set_option maxHeartbeats 1600000 in
theorem drawIterate_is (v : Value) (bs : List Int) (w : World) (hv : RdN .u8 w v bs) (hb : ∀ x ∈ bs, 0 ≤ x ∧ x ≤ 255) :
    Calls Tryz.prog 119 #[v] w (RowRatInt w) := by
  have HV := Lib.hid hv
  have HBs := Lib.hid hb
  obtain ⟨A, cv, rfl, hl, hm, hcell⟩ := hv
  clear hb hcell
  go_enter Tryz.func119, Tryz.ntmps119
  go_wp2_with fail
  refine (orbiter_is (w.heap.size + 1) _ 0 _ ⟨⟨by simp [go_sem], by simp [go_sem]⟩, ⟨0, Nat.le_refl _, by simp [go_sem], by simp [go_sem]⟩, 0, by omega, by omega, by simp [go_sem], by simp [go_sem]⟩ (HV.out.codeF HBs.out (by go_grown) (by omega)) (by omega)).mono ?_
  rintro e w1 ⟨r, ps, x1, x2, rfl, hr, hpl, hc, hb⟩
  have q00 : Slot w1 w.heap.size 0 (.int .i64 0) := slotU hb (by omega) ⟨by simp [go_sem], by simp [go_sem]⟩
  have q01 : Slot w1 w.heap.size 1 (.int .i64 0) := slotU hb (by omega) ⟨by simp [go_sem], by simp [go_sem]⟩
  have hB1 : Below w.heap.size w w1 := But.below (by go_grown : Below w.heap.size w _) hb (by omega) (by go_size)
  have HR1 := Lib.hid (hr.low (b := w.heap.size + 1 + 1) (by first | go_size | (simp; done) | (simp; omega)))
  have HD1 := Lib.hid (DS.start hc (Code.keepU (HV.out.codeF HBs.out (by go_grown) (by omega)) hb))
  clear hc hb hr
  have gl1 := HD1.out.lt
  have zw1 := hB1.size
  have hrb : ∀ b, r.ownBlock = some b → w.heap.size + 1 < b := fun b hb => by have := HR1.out.blk b hb; omega
  go_wp2_with fail
  go_name_world W0 hW
  have e0 : Slot W0 w1.heap.size 0 (.int .i64 x1) := by rw [← hW]; exact ⟨by simp [go_sem], by simp [go_sem]⟩
  have e1 : Slot W0 w1.heap.size 1 (.int .i64 x2) := by rw [← hW]; exact ⟨by simp [go_sem], by simp [go_sem]⟩
  have hB0 : Below w1.heap.size w1 W0 := by rw [← hW]; go_grown
  clear hW
  have hz0 := lt_of_cell e0.1
  replace q00 := slotB hB0 q00
  replace q01 := slotB hB0 q01
  have kL : Facts [(w1.heap.size, 0, .int .i64 x1), (w1.heap.size, 1, .int .i64 x2)] W0 := ⟨e0.1, e1.1⟩
  have c0 : W0.cell? ⟨w1.heap.size, 0, none⟩ = some (.int .i64 x1) ∧ W0.cell? ⟨w1.heap.size, 1, none⟩ = some (.int .i64 x2) := kL
  have cd : W0.drew.cell? ⟨w1.heap.size, 0, none⟩ = some (.int .i64 x1) ∧ W0.drew.cell? ⟨w1.heap.size, 1, none⟩ = some (.int .i64 x2) := c0
  go_region_held3 (fun w' => w'.cell? ⟨w1.heap.size, 0, none⟩ = some (.int .i64 x1) ∧ w'.cell? ⟨w1.heap.size, 1, none⟩ = some (.int .i64 x2)) ((first | (with_reducible exact cd) | (with_reducible exact c0) | (with_reducible exact c2) | (show Facts [(w1.heap.size, 0, .int .i64 x1), (w1.heap.size, 1, .int .i64 x2)] _; ((repeat' (with_reducible refine Facts.put ?_ ?_)) <;> (first | (with_reducible exact kL) | (with_reducible exact k2) | (simp; omega)))) | (refine Facts.keep k2 ?_; go_grown; done))) ((first | (go_at_call 127; (with_reducible refine (stepsOf_is (w.heap.size + 1) _ _ _ (HD1.out.cur.keep (nextW hB0 (by go_grown))) (HD1.out.code.keep (nextW hB0 (by go_grown))) (by omega)).mono ?_); rintro e w2 ⟨n, rfl, hn, hc, hb⟩; have HD2 := Lib.hid (HD1.out.step (nextW hB0 (by go_grown)) hc hb); have HR2 := Lib.hid ((OwP.keep HR1.out (nextW hB0 (by go_grown))).keepU hb (fun h => by have := hrb _ h; omega)); have k2 := Facts.keepU (Facts.keep kL (by go_grown)) hb (by simp; omega); have c2 : w2.cell? ⟨w1.heap.size, 0, none⟩ = some (.int .i64 x1) ∧ w2.cell? ⟨w1.heap.size, 1, none⟩ = some (.int .i64 x2) := k2; obtain ⟨p0, f0⟩ := DS.slot (by go_grown) hb (by omega) q00; obtain ⟨p1, f1⟩ := DS.slot (by go_grown) hb (by omega) q01; have zq := lt_of_cell p0; clear hc hb)))
  go_wp2_with fail
  refine bodyPost_ret (v := .tuple #[_, .agg #[.int .i64 x1, .int .i64 x2], .int .i64 n]) (by simp [results, Tryz.results119, go_sem, p0, p1]; rfl) rfl ⟨_, ps, x1, x2, n, rfl, ?_, hpl, ?_⟩
  · exact (OwP.setO (OwP.setO (HR2.out) (fun h => by have := HR2.out.blk _ h; omega)) (fun h => by have := HR2.out.blk _ h; omega)).low (by omega)
  · have hBw : Below w.heap.size w w2 := But.below hB1 HD2.out.but (by omega) (by omega)
    go_grown

set_option maxRecDepth 100000 in
set_option maxHeartbeats 1600000 in
theorem drawOrbit_is (v : Value) (bs : List Int) (w : World) (hv : RdN .u8 w v bs) (hb : ∀ x ∈ bs, 0 ≤ x ∧ x ≤ 255) :
    Calls Tryz.prog 43 #[v] w (RowRatInt w) := by
  have HV := Lib.hid hv
  obtain ⟨A, cv, rfl, hl, hm, hcell⟩ := hv
  clear hcell
  go_enter Tryz.func43, Tryz.ntmps43
  go_wp2_with fail
  refine (drawIterate_is _ bs _ (HV.out.keep (by go_grown)) hb).mono ?_
  rintro e w1 ⟨r, ps, a, b, n, rfl, hr, hpl, h1⟩
  have hB : Below w.heap.size w w1 := nextX (by go_grown) h1
  have r0 : Slot w1 w.heap.size 0 (.int .i64 0) := slotB h1 ⟨by simp [go_sem], by simp [go_sem]⟩
  have r1 : Slot w1 w.heap.size 1 (.int .i64 0) := slotB h1 ⟨by simp [go_sem], by simp [go_sem]⟩
  have HR := Lib.hid (hr.low (b := w.heap.size + 1) (by first | go_size | (simp; done) | (simp; omega)))
  clear h1 hr
  obtain ⟨q0, k0⟩ := r0
  obtain ⟨q1, k1⟩ := r1
  go_wp2_with fail
  refine bodyPost_ret (v := .tuple #[_, .agg #[.int .i64 a, .int .i64 b], .int .i64 n]) (by simp [results, Tryz.results43, go_sem, q0, q1]; rfl) rfl ⟨_, ps, a, b, n, rfl, ?_, hpl, ?_⟩
  · exact (OwP.setO (OwP.setO (HR.out) (fun h => by have := HR.out.blk _ h; omega)) (fun h => by have := HR.out.blk _ h; omega)).low (by omega)
  · go_grown

set_option maxRecDepth 100000 in
set_option maxHeartbeats 1600000 in
theorem drawDist_is (v : Value) (bs : List Int) (w : World) (hv : RdN .u8 w v bs) (hb : ∀ x ∈ bs, 0 ≤ x ∧ x ≤ 255) :
    Calls Tryz.prog 55 #[v] w (RowRatsInt w) := by
  have HV := Lib.hid hv
  have HBs := Lib.hid hb
  obtain ⟨A, cv, rfl, hl, hm, hcell⟩ := hv
  clear hb hcell
  go_enter Tryz.func55, Tryz.ntmps55
  go_wp2_with fail
  refine (orbiter_is (w.heap.size + 1 + 1) _ 0 _ ⟨⟨by simp [go_sem], by simp [go_sem]⟩, ⟨0, Nat.le_refl _, by simp [go_sem], by simp [go_sem]⟩, 0, by omega, by omega, by simp [go_sem], by simp [go_sem]⟩ (HV.out.codeF HBs.out (by go_grown) (by omega)) (by omega)).mono ?_
  rintro e w1 ⟨r, ps, x1, x2, rfl, hr, hpl, hc, hb⟩
  have q00 : Slot w1 w.heap.size 0 (.int .i64 0) := slotU hb (by omega) ⟨by simp [go_sem], by simp [go_sem]⟩
  have q01 : Slot w1 w.heap.size 1 (.int .i64 0) := slotU hb (by omega) ⟨by simp [go_sem], by simp [go_sem]⟩
  have q10 : Slot w1 (w.heap.size + 1) 0 (.int .i64 0) := slotU hb (by omega) ⟨by simp [go_sem], by simp [go_sem]⟩
  have q11 : Slot w1 (w.heap.size + 1) 1 (.int .i64 0) := slotU hb (by omega) ⟨by simp [go_sem], by simp [go_sem]⟩
  have hB1 : Below w.heap.size w w1 := But.below (by go_grown : Below w.heap.size w _) hb (by omega) (by go_size)
  have HR1 := Lib.hid (hr.low (b := w.heap.size + 1 + 1 + 1) (by first | go_size | (simp; done) | (simp; omega)))
  have HD1 := Lib.hid (DS.start hc (Code.keepU (HV.out.codeF HBs.out (by go_grown) (by omega)) hb))
  clear hc hb hr
  have gl1 := HD1.out.lt
  have zw1 := hB1.size
  have hrb : ∀ b, r.ownBlock = some b → w.heap.size + 1 + 1 < b := fun b hb => by have := HR1.out.blk b hb; omega
  go_wp2_with fail
  go_name_world W0 hW
  have e0 : Slot W0 w1.heap.size 0 (.int .i64 x1) := by rw [← hW]; exact ⟨by simp [go_sem], by simp [go_sem]⟩
  have e1 : Slot W0 w1.heap.size 1 (.int .i64 x2) := by rw [← hW]; exact ⟨by simp [go_sem], by simp [go_sem]⟩
  have hB0 : Below w1.heap.size w1 W0 := by rw [← hW]; go_grown
  clear hW
  have hz0 := lt_of_cell e0.1
  replace q00 := slotB hB0 q00
  replace q01 := slotB hB0 q01
  replace q10 := slotB hB0 q10
  replace q11 := slotB hB0 q11
  have kL : Facts [(w1.heap.size, 0, .int .i64 x1), (w1.heap.size, 1, .int .i64 x2)] W0 := ⟨e0.1, e1.1⟩
  have c0 : W0.cell? ⟨w1.heap.size, 0, none⟩ = some (.int .i64 x1) ∧ W0.cell? ⟨w1.heap.size, 1, none⟩ = some (.int .i64 x2) := kL
  have cd : W0.drew.cell? ⟨w1.heap.size, 0, none⟩ = some (.int .i64 x1) ∧ W0.drew.cell? ⟨w1.heap.size, 1, none⟩ = some (.int .i64 x2) := c0
  go_region_held3 (fun w' => w'.cell? ⟨w1.heap.size, 0, none⟩ = some (.int .i64 x1) ∧ w'.cell? ⟨w1.heap.size, 1, none⟩ = some (.int .i64 x2)) ((first | (with_reducible exact cd) | (with_reducible exact c0) | (with_reducible exact c2) | (with_reducible exact c3) | (show Facts [(w1.heap.size, 0, .int .i64 x1), (w1.heap.size, 1, .int .i64 x2)] _; ((repeat' (with_reducible refine Facts.put ?_ ?_)) <;> (first | (with_reducible exact kL) | (with_reducible exact k2) | (with_reducible exact k3) | (simp; omega)))) | (refine Facts.keep k3 ?_; go_grown; done))) ((first | (go_at_call 126; (with_reducible refine (xOf_is (w.heap.size + 1 + 1) _ _ (w.heap.size + 1 + 1 + 1) _ ps _ (HD1.out.cur.keep (nextW hB0 (by go_grown))) (HD1.out.code.keep (nextW hB0 (by go_grown))) (OwP.keep HR1.out (nextW hB0 (by go_grown))) (by omega) (by omega) (by omega)).mono ?_); rintro e w2 ⟨a, b, rfl, hc, hb⟩; have HD2 := Lib.hid (HD1.out.step (nextW hB0 (by go_grown)) hc hb); have HR2 := Lib.hid ((OwP.keep HR1.out (nextW hB0 (by go_grown))).keepU hb (fun h => by have := hrb _ h; omega)); have k2 := Facts.keepU (Facts.keep kL (by go_grown)) hb (by simp; omega); have c2 : w2.cell? ⟨w1.heap.size, 0, none⟩ = some (.int .i64 x1) ∧ w2.cell? ⟨w1.heap.size, 1, none⟩ = some (.int .i64 x2) := k2; have s00 := DS.slot (by go_grown) hb (by omega) q00; have s01 := DS.slot (by go_grown) hb (by omega) q01; have s10 := DS.slot (by go_grown) hb (by omega) q10; have s11 := DS.slot (by go_grown) hb (by omega) q11; have zs := lt_of_cell s10.1; have hz2 := lt_of_cell k2.1; clear hc hb) | (go_at_call 127; (with_reducible refine (stepsOf_is (w.heap.size + 1 + 1) _ _ _ (HD2.out.cur.keep (by go_grown)) (HD2.out.code.keep (by go_grown)) (by omega)).mono ?_); rintro e w3 ⟨n, rfl, hn, hc, hb⟩; have HD3 := Lib.hid (HD2.out.step (by go_grown) hc hb); have HR3 := Lib.hid ((OwP.keep HR2.out (by go_grown)).keepU hb (fun h => by have := hrb _ h; omega)); have k3 := Facts.keepU (Facts.keep k2 (by go_grown)) hb (by simp; omega); have c3 : w3.cell? ⟨w1.heap.size, 0, none⟩ = some (.int .i64 x1) ∧ w3.cell? ⟨w1.heap.size, 1, none⟩ = some (.int .i64 x2) := k3; obtain ⟨p0, f0⟩ := DS.slot (by go_grown) hb (by omega) s00; obtain ⟨p1, f1⟩ := DS.slot (by go_grown) hb (by omega) s01; obtain ⟨p2, f2⟩ := DS.slot (by go_grown) hb (by omega) s10; obtain ⟨p3, f3⟩ := DS.slot (by go_grown) hb (by omega) s11; have zq := lt_of_cell p0; have zq1 := lt_of_cell p2; clear hc hb)))
  go_wp2_with fail
  refine bodyPost_ret (v := .tuple #[_, .agg #[.int .i64 x1, .int .i64 x2], .agg #[.int .i64 a, .int .i64 b], .int .i64 n]) (by simp [results, Tryz.results55, go_sem, p0, p1, p2, p3]; rfl) rfl ⟨_, ps, x1, x2, a, b, n, rfl, ?_, hpl, ?_⟩
  · exact (OwP.setO (OwP.setO (OwP.setO (OwP.setO (HR3.out) (fun h => by have := HR3.out.blk _ h; omega)) (fun h => by have := HR3.out.blk _ h; omega)) (fun h => by have := HR3.out.blk _ h; omega)) (fun h => by have := HR3.out.blk _ h; omega)).low (by omega)
  · have hBw : Below w.heap.size w w3 := But.below hB1 HD3.out.but (by omega) (by omega)
    go_grown

end Go.Proofs.YtkeajfgcjmhmiaaGreat
