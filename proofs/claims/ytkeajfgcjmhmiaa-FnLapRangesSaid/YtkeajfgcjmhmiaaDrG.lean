/- Drawn fractions of a grid, of the unit interval; drawn numbers of steps. -/
import Derived.Test.YtkeajfgcjmhmiaaCurR
namespace Go.Proofs.Ytkeajfgcjmhmiaa
open Go.RowKit

set_option maxHeartbeats 1600000 in
theorem gridRat_is (g : Nat) (v : Value) (n : Nat) (N : Int) (w : World) (hc : Cur g v n w) (hv : Code g w v) (hn : n + 2 ≤ 1000000000) (hN : 1 ≤ N ∧ N ≤ 1000000) :
    Calls Try.prog 58 #[.pointer (some ⟨g, 0, none⟩), .int .i64 N] w (RatOk g v (n + 2) w) := by
  have hg := lt_of_cell hc.code.1
  have HD := Lib.hid (DS.start hc hv)
  have vN : IntKind.i64.wrap (N + 1) = N + 1 := IntWalk.i64_in _ (by omega)
  clear hc hv
  go_enter Try.func58, Try.ntmps58
  go_wp2_with fail
  refine (pick_is g v _ (N + 1) _ (HD.out.cur.keep (by go_grown)) (HD.out.code.keep (by go_grown)) (by omega) (by omega)).mono ?_
  rintro e w1 ⟨x, rfl, hx, hc, hb⟩
  have HD1 := Lib.hid (HD.out.step (by go_grown) hc hb)
  have q0 : Slot w1 w.heap.size 0 (.int .i64 0) := slotU hb (by omega) ⟨by simp [go_sem], by simp [go_sem]⟩
  have q1 : Slot w1 w.heap.size 1 (.int .i64 0) := slotU hb (by omega) ⟨by simp [go_sem], by simp [go_sem]⟩
  clear hc hb
  have gl1 := HD1.out.lt
  obtain ⟨a, b, hq, -, -, -, -, hok⟩ := lowQ_fits (N := x) (D := N) (by omega) (by omega) (by omega) (by omega)
  have HQ := Lib.hid hok
  clear hok
  go_wp2_with fail
  refine (raMake_any x N a b true hq (by omega) (by omega) _).mono ?_
  rintro e w2 ⟨rfl, hb⟩
  have hX : Below w1.heap.size w1 w2 := nextX (by go_grown) hb
  replace q0 := slotB hX q0
  replace q1 := slotB hX q1
  have HD2 := Lib.hid (HD1.out.grow hX)
  have zq := lt_of_cell q0.1
  clear hb hX
  obtain ⟨p0, f0⟩ := q0
  obtain ⟨p1, f1⟩ := q1
  go_wp2_with fail
  refine bodyPost_ret (v := .agg #[.int .i64 a, .int .i64 b]) (by simp [results, Try.results58, go_sem, p0, p1, zq]) rfl ⟨a, b, rfl, HQ.out, ?_, ?_⟩
  · exact (((HD2.out.cur.setO (by omega) _).setO (by omega) _).alloc _).more (by omega)
  · exact ((HD2.out.but.setNew (Nat.le_refl _) _).setNew (Nat.le_refl _) _).alloc _

set_option maxHeartbeats 1600000 in
theorem unitRat_is (g : Nat) (v : Value) (n : Nat) (w : World) (hc : Cur g v n w) (hv : Code g w v) (hn : n + 10 ≤ 1000000000) :
    Calls Try.prog 60 #[.pointer (some ⟨g, 0, none⟩)] w (RatOk g v (n + 6) w) := by
  have hg := lt_of_cell hc.code.1
  have HD := Lib.hid (DS.start hc hv)
  clear hc hv
  go_enter Try.func60, Try.ntmps60
  go_wp2_with fail
  refine (pick_is g v _ 60 _ (HD.out.cur.keep (by go_grown)) (HD.out.code.keep (by go_grown)) (by omega) (by omega)).mono ?_
  rintro e w1 ⟨x, rfl, hx, hc, hb⟩
  have HD1 := Lib.hid (HD.out.step (by go_grown) hc hb)
  have q0 : Slot w1 w.heap.size 0 (.int .i64 0) := slotU hb (by omega) ⟨by simp [go_sem], by simp [go_sem]⟩
  have q1 : Slot w1 w.heap.size 1 (.int .i64 0) := slotU hb (by omega) ⟨by simp [go_sem], by simp [go_sem]⟩
  clear hc hb
  have gl1 := HD1.out.lt
  have vx : IntKind.i64.wrap (1 + x) = 1 + x := IntWalk.i64_in _ (by omega)
  go_wp2_with fail
  refine (among_is g v _ [1, 2, 3, 4, 5, 7, 8, 12, 16, 1 + x] _ _ (HD1.out.cur.keep (by go_grown)) (HD1.out.code.keep (by go_grown)) (by omega) (RdN.made .i64 _ [1, 2, 3, 4, 5, 7, 8, 12, 16, 1 + x] _ (by simp [maxLen])) (by intro b o n c h; injection h with h; injection h with h; injection h with h; omega) (by simp)).mono ?_
  rintro e w2 ⟨d, rfl, hd, hc, hb⟩
  have HD2 := Lib.hid (HD1.out.step (by go_grown) hc hb)
  replace q0 := DS.slot (by go_grown) hb (by omega) q0
  replace q1 := DS.slot (by go_grown) hb (by omega) q1
  have bd : 1 ≤ d ∧ d ≤ 1000 := by simp at hd; omega
  clear hc hb hd
  have gl2 := HD2.out.lt
  have vd : IntKind.i64.wrap (d + 1) = d + 1 := IntWalk.i64_in _ (by omega)
  go_wp2_with fail
  refine (pick_is g v _ (d + 1) _ (HD2.out.cur.keep (by go_grown)) (HD2.out.code.keep (by go_grown)) (by omega) (by omega)).mono ?_
  rintro e w3 ⟨y, rfl, hy, hc, hb⟩
  have HD3 := Lib.hid (HD2.out.step (by go_grown) hc hb)
  replace q0 := DS.slot (by go_grown) hb (by omega) q0
  replace q1 := DS.slot (by go_grown) hb (by omega) q1
  clear hc hb
  have gl3 := HD3.out.lt
  obtain ⟨a, b, hq, -, -, -, -, hok⟩ := lowQ_fits (N := y) (D := d) (by omega) (by omega) (by omega) (by omega)
  have HQ := Lib.hid hok
  clear hok
  go_wp2_with fail
  refine (raMake_any y d a b true hq (by omega) (by omega) _).mono ?_
  rintro e w4 ⟨rfl, hb⟩
  have hX : Below w3.heap.size w3 w4 := nextX (by go_grown) hb
  replace q0 := slotB hX q0
  replace q1 := slotB hX q1
  have HD4 := Lib.hid (HD3.out.grow hX)
  have zq := lt_of_cell q0.1
  clear hb hX
  obtain ⟨p0, f0⟩ := q0
  obtain ⟨p1, f1⟩ := q1
  go_wp2_with fail
  refine bodyPost_ret (v := .agg #[.int .i64 a, .int .i64 b]) (by simp [results, Try.results60, go_sem, p0, p1, zq]) rfl ⟨a, b, rfl, HQ.out, ?_, ?_⟩
  · exact (((HD4.out.cur.setO (by omega) _).setO (by omega) _).alloc _).more (by omega)
  · exact ((HD4.out.but.setNew (Nat.le_refl _) _).setNew (Nat.le_refl _) _).alloc _


end Go.Proofs.Ytkeajfgcjmhmiaa
