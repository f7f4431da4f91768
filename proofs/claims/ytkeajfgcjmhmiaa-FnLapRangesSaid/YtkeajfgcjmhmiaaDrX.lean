/- Drawn places: xOf. -/
import Derived.Test.YtkeajfgcjmhmiaaDrA
namespace Go.Proofs.Ytkeajfgcjmhmiaa
open Go.RowKit

/-- A drawn fraction, of any numbers. -/
def RatAny (g : Nat) (v : Value) (m : Nat) (w : World) (e : Ending) (w' : World) : Prop := ∃ a b : Int, e = .returned (.agg #[.int .i64 a, .int .i64 b]) ∧ Cur g v m w' ∧ But g w w'
theorem OwP.point {b gf : Nat} {e : TypeId} {w : World} {n c : Nat} {ps : List Pt} (h : OwP b e w (.slice (some ⟨gf, 0, none⟩) n c) ps) {k : Nat} {p : Pt} (hn : n = ps.length) (hp : ps[k]? = some p) :
    (w.cell? ⟨gf, k * 4, none⟩ = some (.int .i64 p.1.1) ∧ w.cell? ⟨gf, k * 4 + 1, none⟩ = some (.int .i64 p.1.2)) ∧ w.cell? ⟨gf, k * 4 + 2, none⟩ = some (.int .i64 p.2.1) ∧ w.cell? ⟨gf, k * 4 + 2 + 1, none⟩ = some (.int .i64 p.2.2) := by
  subst hn
  have hk := (List.getElem?_eq_some_iff.1 hp).1
  obtain ⟨g0, g1, g2, g3⟩ := rowP_get ps k p hp
  rw [World.ownsRow.cellAt h _ (by omega), World.ownsRow.cellAt h _ (by omega), World.ownsRow.cellAt h _ (by omega), World.ownsRow.cellAt h _ (by omega)]
  exact ⟨⟨g0, g1⟩, g2, g3⟩

set_option maxRecDepth 100000 in
set_option maxHeartbeats 6400000 in
theorem xOf_is (g : Nat) (v : Value) (n : Nat) (base : Nat) (u : Value) (ps : List Pt) (w : World) (hc : Cur g v n w) (hv : Code g w v) (hu : OwP base 43 w u ps) (hbg : g < base) (hl : ps.length ≤ 62) (hn : n + 100 ≤ 1000000000) :
    Calls Try.prog 27 #[.pointer (some ⟨g, 0, none⟩), u] w (RatAny g v (n + 24) w) := by
  have hg := lt_of_cell hc.code.1
  have HD := Lib.hid (DS.start hc hv)
  have HU := Lib.hid hu
  obtain ⟨Af, cf, hfe, hfl, hfm⟩ := ownsRow_slice hu
  subst hfe
  unfold maxLen at hfm
  clear hc hv hu
  go_enter Try.func27, Try.ntmps27
  go_wp2_with fail
  refine (pick_is g v _ 8 _ (HD.out.cur.keep (by go_grown)) (HD.out.code.keep (by go_grown)) (by omega) (by omega)).mono ?_
  rintro e w1 ⟨s, rfl, hs, hc, hb⟩
  have HD1 := Lib.hid (HD.out.step (by go_grown) hc hb)
  have q0 : Slot w1 w.heap.size 0 (.int .i64 0) := slotU hb (by omega) ⟨by simp [go_sem], by simp [go_sem]⟩
  have q1 : Slot w1 w.heap.size 1 (.int .i64 0) := slotU hb (by omega) ⟨by simp [go_sem], by simp [go_sem]⟩
  have HU1 := Lib.hid ((OwP.keep HU.out (by go_grown)).keepU hb (fun h => by have := HU.out.blk g h; omega))
  clear hc hb
  have gl1 := HD1.out.lt
  have hz1 := HD1.out.but.size
  rcases (show s = 0 ∨ s = 1 ∨ s = 2 ∨ s = 3 ∨ s = 4 ∨ s = 5 ∨ s = 6 ∨ s = 7 by omega) with rfl | rfl | rfl | rfl | rfl | rfl | rfl | rfl
  · clear hs
    rcases Nat.eq_zero_or_pos ps.length with hz | hpos
    · have d0 : ¬ (0 : Int) < ((ps.length : Nat) : Int) := by omega
      have d0' : decide ((0 : Int) < ((ps.length : Nat) : Int)) = false := decide_eq_false d0
      go_wp2_with fail
      refine (anyRat_is g v _ _ (HD1.out.cur.keep (by go_grown)) (HD1.out.code.keep (by go_grown)) (by omega)).mono ?_
      rintro e w2 ⟨a, b, rfl, hab, hc, hb⟩
      have HD2 := Lib.hid (HD1.out.step (by go_grown) hc hb)
      replace q0 := DS.slot (by go_grown) hb (by omega) q0
      replace q1 := DS.slot (by go_grown) hb (by omega) q1
      clear hc hb
      have zq := lt_of_cell q0.1
      obtain ⟨p0, f0⟩ := q0
      obtain ⟨p1, f1⟩ := q1
      go_wp2_with fail
      refine bodyPost_ret (v := .agg #[.int .i64 a, .int .i64 b]) (by first | (simp [results, Try.results27, go_sem, p0, p1]; done) | (simp [results, Try.results27, go_sem, p0, p1, zq]; done)) rfl ⟨a, b, rfl, ?_, ?_⟩
      · exact ((HD2.out.cur.setO (by omega) _).setO (by omega) _).more (by omega)
      · exact (HD2.out.but.setNew (Nat.le_refl _) _).setNew (Nat.le_refl _) _
    · have d0 : (0 : Int) < ((ps.length : Nat) : Int) := by omega
      have d0' : decide ((0 : Int) < ((ps.length : Nat) : Int)) = true := decide_eq_true d0
      obtain ⟨gf, hA⟩ : ∃ gf, Af = some ⟨gf, 0, none⟩ := by
        rcases HU.out.2 with ⟨h, hn⟩ | ⟨g', cap', cur', h, -⟩
        · omega
        · injection h with h; exact ⟨g', h⟩
      subst hA
      have hge : base ≤ gf := HU.out.blk gf rfl
      have hgf : gf ≠ g := by omega
      go_wp2_with fail
      refine (pick_is g v _ (ps.length : Int) _ (HD1.out.cur.keep (by go_grown)) (HD1.out.code.keep (by go_grown)) (by omega) (by omega)).mono ?_
      rintro e w2 ⟨x, rfl, hx, hc, hb⟩
      have HD2 := Lib.hid (HD1.out.step (by go_grown) hc hb)
      have HU2 := Lib.hid ((HU1.out.keep (w' := w1) (Below.refl _ _)).keepU hb (fun h => by injection h with h; exact hgf h))
      replace q0 := DS.slot (by go_grown) hb (by omega) q0
      replace q1 := DS.slot (by go_grown) hb (by omega) q1
      clear hc hb
      have zq := lt_of_cell q0.1
      obtain ⟨k, rfl⟩ : ∃ k : Nat, x = k := ⟨x.toNat, by omega⟩
      have kl : k < ps.length := by omega
      have kli : (k : Int) < ((ps.length : Nat) : Int) := by omega
      have hp := List.getElem?_eq_getElem kl
      generalize ps[k] = p at hp
      obtain ⟨⟨c0, c1⟩, c2, c3⟩ := OwP.point HU2.out rfl hp
      obtain ⟨a, ha⟩ : ∃ a, a = p.1.1 := ⟨_, rfl⟩
      obtain ⟨b, hb⟩ : ∃ b, b = p.1.2 := ⟨_, rfl⟩
      rw [← ha] at c0
      rw [← hb] at c1
      clear ha hb
      obtain ⟨p0, f0⟩ := q0
      obtain ⟨p1, f1⟩ := q1
      go_wp2_with fail
      refine bodyPost_ret (v := .agg #[.int .i64 a, .int .i64 b]) (by first | (simp [results, Try.results27, go_sem, p0, p1]; done) | (simp [results, Try.results27, go_sem, p0, p1, zq]; done)) rfl ⟨a, b, rfl, ?_, ?_⟩
      · exact ((HD2.out.cur.setO (by omega) _).setO (by omega) _).more (by omega)
      · exact (HD2.out.but.setNew (Nat.le_refl _) _).setNew (Nat.le_refl _) _
  · clear hs
    rcases Nat.eq_zero_or_pos ps.length with hz | hpos
    · have d0 : ¬ (0 : Int) < ((ps.length : Nat) : Int) := by omega
      have d0' : decide ((0 : Int) < ((ps.length : Nat) : Int)) = false := decide_eq_false d0
      go_wp2_with fail
      refine (anyRat_is g v _ _ (HD1.out.cur.keep (by go_grown)) (HD1.out.code.keep (by go_grown)) (by omega)).mono ?_
      rintro e w2 ⟨a, b, rfl, hab, hc, hb⟩
      have HD2 := Lib.hid (HD1.out.step (by go_grown) hc hb)
      replace q0 := DS.slot (by go_grown) hb (by omega) q0
      replace q1 := DS.slot (by go_grown) hb (by omega) q1
      clear hc hb
      have zq := lt_of_cell q0.1
      obtain ⟨p0, f0⟩ := q0
      obtain ⟨p1, f1⟩ := q1
      go_wp2_with fail
      refine bodyPost_ret (v := .agg #[.int .i64 a, .int .i64 b]) (by first | (simp [results, Try.results27, go_sem, p0, p1]; done) | (simp [results, Try.results27, go_sem, p0, p1, zq]; done)) rfl ⟨a, b, rfl, ?_, ?_⟩
      · exact ((HD2.out.cur.setO (by omega) _).setO (by omega) _).more (by omega)
      · exact (HD2.out.but.setNew (Nat.le_refl _) _).setNew (Nat.le_refl _) _
    · have d0 : (0 : Int) < ((ps.length : Nat) : Int) := by omega
      have d0' : decide ((0 : Int) < ((ps.length : Nat) : Int)) = true := decide_eq_true d0
      obtain ⟨gf, hA⟩ : ∃ gf, Af = some ⟨gf, 0, none⟩ := by
        rcases HU.out.2 with ⟨h, hn⟩ | ⟨g', cap', cur', h, -⟩
        · omega
        · injection h with h; exact ⟨g', h⟩
      subst hA
      have hge : base ≤ gf := HU.out.blk gf rfl
      have hgf : gf ≠ g := by omega
      go_wp2_with fail
      refine (pick_is g v _ (ps.length : Int) _ (HD1.out.cur.keep (by go_grown)) (HD1.out.code.keep (by go_grown)) (by omega) (by omega)).mono ?_
      rintro e w2 ⟨x, rfl, hx, hc, hb⟩
      have HD2 := Lib.hid (HD1.out.step (by go_grown) hc hb)
      have HU2 := Lib.hid ((HU1.out.keep (w' := w1) (Below.refl _ _)).keepU hb (fun h => by injection h with h; exact hgf h))
      replace q0 := DS.slot (by go_grown) hb (by omega) q0
      replace q1 := DS.slot (by go_grown) hb (by omega) q1
      clear hc hb
      have zq := lt_of_cell q0.1
      obtain ⟨k, rfl⟩ : ∃ k : Nat, x = k := ⟨x.toNat, by omega⟩
      have kl : k < ps.length := by omega
      have kli : (k : Int) < ((ps.length : Nat) : Int) := by omega
      have hp := List.getElem?_eq_getElem kl
      generalize ps[k] = p at hp
      obtain ⟨⟨c0, c1⟩, c2, c3⟩ := OwP.point HU2.out rfl hp
      obtain ⟨a, ha⟩ : ∃ a, a = p.1.1 := ⟨_, rfl⟩
      obtain ⟨b, hb⟩ : ∃ b, b = p.1.2 := ⟨_, rfl⟩
      rw [← ha] at c0
      rw [← hb] at c1
      clear ha hb
      obtain ⟨p0, f0⟩ := q0
      obtain ⟨p1, f1⟩ := q1
      go_wp2_with fail
      refine bodyPost_ret (v := .agg #[.int .i64 a, .int .i64 b]) (by first | (simp [results, Try.results27, go_sem, p0, p1]; done) | (simp [results, Try.results27, go_sem, p0, p1, zq]; done)) rfl ⟨a, b, rfl, ?_, ?_⟩
      · exact ((HD2.out.cur.setO (by omega) _).setO (by omega) _).more (by omega)
      · exact (HD2.out.but.setNew (Nat.le_refl _) _).setNew (Nat.le_refl _) _
  · clear hs
    rcases Nat.eq_zero_or_pos ps.length with hz | hpos
    · have d0 : ¬ (0 : Int) < ((ps.length : Nat) : Int) := by omega
      have d0' : decide ((0 : Int) < ((ps.length : Nat) : Int)) = false := decide_eq_false d0
      go_wp2_with fail
      refine (anyRat_is g v _ _ (HD1.out.cur.keep (by go_grown)) (HD1.out.code.keep (by go_grown)) (by omega)).mono ?_
      rintro e w2 ⟨a, b, rfl, hab, hc, hb⟩
      have HD2 := Lib.hid (HD1.out.step (by go_grown) hc hb)
      replace q0 := DS.slot (by go_grown) hb (by omega) q0
      replace q1 := DS.slot (by go_grown) hb (by omega) q1
      clear hc hb
      have zq := lt_of_cell q0.1
      obtain ⟨p0, f0⟩ := q0
      obtain ⟨p1, f1⟩ := q1
      go_wp2_with fail
      refine bodyPost_ret (v := .agg #[.int .i64 a, .int .i64 b]) (by first | (simp [results, Try.results27, go_sem, p0, p1]; done) | (simp [results, Try.results27, go_sem, p0, p1, zq]; done)) rfl ⟨a, b, rfl, ?_, ?_⟩
      · exact ((HD2.out.cur.setO (by omega) _).setO (by omega) _).more (by omega)
      · exact (HD2.out.but.setNew (Nat.le_refl _) _).setNew (Nat.le_refl _) _
    · have d0 : (0 : Int) < ((ps.length : Nat) : Int) := by omega
      have d0' : decide ((0 : Int) < ((ps.length : Nat) : Int)) = true := decide_eq_true d0
      obtain ⟨gf, hA⟩ : ∃ gf, Af = some ⟨gf, 0, none⟩ := by
        rcases HU.out.2 with ⟨h, hn⟩ | ⟨g', cap', cur', h, -⟩
        · omega
        · injection h with h; exact ⟨g', h⟩
      subst hA
      have hge : base ≤ gf := HU.out.blk gf rfl
      have hgf : gf ≠ g := by omega
      go_wp2_with fail
      refine (pick_is g v _ (ps.length : Int) _ (HD1.out.cur.keep (by go_grown)) (HD1.out.code.keep (by go_grown)) (by omega) (by omega)).mono ?_
      rintro e w2 ⟨x, rfl, hx, hc, hb⟩
      have HD2 := Lib.hid (HD1.out.step (by go_grown) hc hb)
      have HU2 := Lib.hid ((HU1.out.keep (w' := w1) (Below.refl _ _)).keepU hb (fun h => by injection h with h; exact hgf h))
      replace q0 := DS.slot (by go_grown) hb (by omega) q0
      replace q1 := DS.slot (by go_grown) hb (by omega) q1
      clear hc hb
      have zq := lt_of_cell q0.1
      obtain ⟨k, rfl⟩ : ∃ k : Nat, x = k := ⟨x.toNat, by omega⟩
      have kl : k < ps.length := by omega
      have kli : (k : Int) < ((ps.length : Nat) : Int) := by omega
      have hp := List.getElem?_eq_getElem kl
      generalize ps[k] = p at hp
      obtain ⟨⟨c0, c1⟩, c2, c3⟩ := OwP.point HU2.out rfl hp
      obtain ⟨a, ha⟩ : ∃ a, a = p.2.1 := ⟨_, rfl⟩
      obtain ⟨b, hb⟩ : ∃ b, b = p.2.2 := ⟨_, rfl⟩
      rw [← ha] at c2
      rw [← hb] at c3
      clear ha hb
      obtain ⟨p0, f0⟩ := q0
      obtain ⟨p1, f1⟩ := q1
      go_wp2_with fail
      refine bodyPost_ret (v := .agg #[.int .i64 a, .int .i64 b]) (by first | (simp [results, Try.results27, go_sem, p0, p1]; done) | (simp [results, Try.results27, go_sem, p0, p1, zq]; done)) rfl ⟨a, b, rfl, ?_, ?_⟩
      · exact ((HD2.out.cur.setO (by omega) _).setO (by omega) _).more (by omega)
      · exact (HD2.out.but.setNew (Nat.le_refl _) _).setNew (Nat.le_refl _) _
  · clear hs
    go_wp2_with fail
    refine (among_is g v _ [2, 3, 4, 5, 7, 12] _ _ (HD1.out.cur.keep (by go_grown)) (HD1.out.code.keep (by go_grown)) (by omega) (RdN.made .i64 _ [2, 3, 4, 5, 7, 12] _ (by simp [maxLen])) (by intro b o n c h; injection h with h; injection h with h; injection h with h; omega) (by simp)).mono ?_
    rintro e w2 ⟨N, rfl, hm, hc, hb⟩
    have HD2 := Lib.hid (HD1.out.step (by go_grown) hc hb)
    have bN : 2 ≤ N ∧ N ≤ 12 := by simp at hm; omega
    replace q0 := DS.slot (by go_grown) hb (by omega) q0
    replace q1 := DS.slot (by go_grown) hb (by omega) q1
    clear hc hb
    have zq := lt_of_cell q0.1
    clear hm
    have gl2 := HD2.out.lt
    go_wp2_with fail
    refine (gridRat_is g v _ N _ (HD2.out.cur.keep (by go_grown)) (HD2.out.code.keep (by go_grown)) (by omega) (by omega)).mono ?_
    rintro e w3 ⟨a, b, rfl, hab, hc, hb⟩
    have HD3 := Lib.hid (HD2.out.step (by go_grown) hc hb)
    replace q0 := DS.slot (by go_grown) hb (by omega) q0
    replace q1 := DS.slot (by go_grown) hb (by omega) q1
    clear hc hb
    have zq := lt_of_cell q0.1
    obtain ⟨p0, f0⟩ := q0
    obtain ⟨p1, f1⟩ := q1
    go_wp2_with fail
    refine bodyPost_ret (v := .agg #[.int .i64 a, .int .i64 b]) (by first | (simp [results, Try.results27, go_sem, p0, p1]; done) | (simp [results, Try.results27, go_sem, p0, p1, zq]; done)) rfl ⟨a, b, rfl, ?_, ?_⟩
    · exact ((HD3.out.cur.setO (by omega) _).setO (by omega) _).more (by omega)
    · exact (HD3.out.but.setNew (Nat.le_refl _) _).setNew (Nat.le_refl _) _
  · clear hs
    go_wp2_with fail
    refine (among_is g v _ [2, 3, 4, 5, 7, 12] _ _ (HD1.out.cur.keep (by go_grown)) (HD1.out.code.keep (by go_grown)) (by omega) (RdN.made .i64 _ [2, 3, 4, 5, 7, 12] _ (by simp [maxLen])) (by intro b o n c h; injection h with h; injection h with h; injection h with h; omega) (by simp)).mono ?_
    rintro e w2 ⟨N, rfl, hm, hc, hb⟩
    have HD2 := Lib.hid (HD1.out.step (by go_grown) hc hb)
    have bN : 2 ≤ N ∧ N ≤ 12 := by simp at hm; omega
    replace q0 := DS.slot (by go_grown) hb (by omega) q0
    replace q1 := DS.slot (by go_grown) hb (by omega) q1
    clear hc hb
    have zq := lt_of_cell q0.1
    clear hm
    have gl2 := HD2.out.lt
    go_wp2_with fail
    refine (gridRat_is g v _ N _ (HD2.out.cur.keep (by go_grown)) (HD2.out.code.keep (by go_grown)) (by omega) (by omega)).mono ?_
    rintro e w3 ⟨a, b, rfl, hab, hc, hb⟩
    have HD3 := Lib.hid (HD2.out.step (by go_grown) hc hb)
    replace q0 := DS.slot (by go_grown) hb (by omega) q0
    replace q1 := DS.slot (by go_grown) hb (by omega) q1
    clear hc hb
    have zq := lt_of_cell q0.1
    obtain ⟨p0, f0⟩ := q0
    obtain ⟨p1, f1⟩ := q1
    go_wp2_with fail
    refine bodyPost_ret (v := .agg #[.int .i64 a, .int .i64 b]) (by first | (simp [results, Try.results27, go_sem, p0, p1]; done) | (simp [results, Try.results27, go_sem, p0, p1, zq]; done)) rfl ⟨a, b, rfl, ?_, ?_⟩
    · exact ((HD3.out.cur.setO (by omega) _).setO (by omega) _).more (by omega)
    · exact (HD3.out.but.setNew (Nat.le_refl _) _).setNew (Nat.le_refl _) _
  · clear hs
    go_wp2_with fail
    refine (among_is g v _ [2, 3, 4, 5, 7, 12] _ _ (HD1.out.cur.keep (by go_grown)) (HD1.out.code.keep (by go_grown)) (by omega) (RdN.made .i64 _ [2, 3, 4, 5, 7, 12] _ (by simp [maxLen])) (by intro b o n c h; injection h with h; injection h with h; injection h with h; omega) (by simp)).mono ?_
    rintro e w2 ⟨N, rfl, hm, hc, hb⟩
    have HD2 := Lib.hid (HD1.out.step (by go_grown) hc hb)
    have bN : 2 ≤ N ∧ N ≤ 12 := by simp at hm; omega
    replace q0 := DS.slot (by go_grown) hb (by omega) q0
    replace q1 := DS.slot (by go_grown) hb (by omega) q1
    clear hc hb
    have zq := lt_of_cell q0.1
    clear hm
    have gl2 := HD2.out.lt
    go_wp2_with fail
    refine (gridRat_is g v _ N _ (HD2.out.cur.keep (by go_grown)) (HD2.out.code.keep (by go_grown)) (by omega) (by omega)).mono ?_
    rintro e w3 ⟨a, b, rfl, hab, hc, hb⟩
    have HD3 := Lib.hid (HD2.out.step (by go_grown) hc hb)
    replace q0 := DS.slot (by go_grown) hb (by omega) q0
    replace q1 := DS.slot (by go_grown) hb (by omega) q1
    clear hc hb
    have zq := lt_of_cell q0.1
    obtain ⟨p0, f0⟩ := q0
    obtain ⟨p1, f1⟩ := q1
    go_wp2_with fail
    refine bodyPost_ret (v := .agg #[.int .i64 a, .int .i64 b]) (by first | (simp [results, Try.results27, go_sem, p0, p1]; done) | (simp [results, Try.results27, go_sem, p0, p1, zq]; done)) rfl ⟨a, b, rfl, ?_, ?_⟩
    · exact ((HD3.out.cur.setO (by omega) _).setO (by omega) _).more (by omega)
    · exact (HD3.out.but.setNew (Nat.le_refl _) _).setNew (Nat.le_refl _) _
  · clear hs
    go_wp2_with fail
    refine (unitRat_is g v _ _ (HD1.out.cur.keep (by go_grown)) (HD1.out.code.keep (by go_grown)) (by omega)).mono ?_
    rintro e w2 ⟨a, b, rfl, hab, hc, hb⟩
    have HD2 := Lib.hid (HD1.out.step (by go_grown) hc hb)
    replace q0 := DS.slot (by go_grown) hb (by omega) q0
    replace q1 := DS.slot (by go_grown) hb (by omega) q1
    clear hc hb
    have zq := lt_of_cell q0.1
    obtain ⟨p0, f0⟩ := q0
    obtain ⟨p1, f1⟩ := q1
    go_wp2_with fail
    refine bodyPost_ret (v := .agg #[.int .i64 a, .int .i64 b]) (by first | (simp [results, Try.results27, go_sem, p0, p1]; done) | (simp [results, Try.results27, go_sem, p0, p1, zq]; done)) rfl ⟨a, b, rfl, ?_, ?_⟩
    · exact ((HD2.out.cur.setO (by omega) _).setO (by omega) _).more (by omega)
    · exact (HD2.out.but.setNew (Nat.le_refl _) _).setNew (Nat.le_refl _) _
  · clear hs
    go_wp2_with fail
    refine (anyRat_is g v _ _ (HD1.out.cur.keep (by go_grown)) (HD1.out.code.keep (by go_grown)) (by omega)).mono ?_
    rintro e w2 ⟨a, b, rfl, hab, hc, hb⟩
    have HD2 := Lib.hid (HD1.out.step (by go_grown) hc hb)
    replace q0 := DS.slot (by go_grown) hb (by omega) q0
    replace q1 := DS.slot (by go_grown) hb (by omega) q1
    clear hc hb
    have zq := lt_of_cell q0.1
    obtain ⟨p0, f0⟩ := q0
    obtain ⟨p1, f1⟩ := q1
    go_wp2_with fail
    refine bodyPost_ret (v := .agg #[.int .i64 a, .int .i64 b]) (by first | (simp [results, Try.results27, go_sem, p0, p1]; done) | (simp [results, Try.results27, go_sem, p0, p1, zq]; done)) rfl ⟨a, b, rfl, ?_, ?_⟩
    · exact ((HD2.out.cur.setO (by omega) _).setO (by omega) _).more (by omega)
    · exact (HD2.out.but.setNew (Nat.le_refl _) _).setNew (Nat.le_refl _) _

end Go.Proofs.Ytkeajfgcjmhmiaa
