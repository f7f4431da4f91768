/- The program's fraction between two points whose value is itself. -/
import Derived.Test.YtkeajfgcjmhmiaaGreatFix0
import Derived.BigQuiet
namespace Go.Proofs.YtkeajfgcjmhmiaaGreat
open Go.RowKit

theorem absI_nat (n : Int) : absI n = (n.natAbs : Int) := by unfold absI; split <;> omega

/-- Bounds of all that the program reckons between two points. -/
structure BetwBd (a b c d e f g h : Int) : Prop where
  m1 : -10000 ≤ a * d ∧ a * d ≤ 10000
  m2 : -10000 ≤ c * b ∧ c * b ≤ 10000
  m3 : -10000 ≤ e * h ∧ e * h ≤ 10000
  m4 : -10000 ≤ g * f ∧ g * f ≤ 10000
  o1 : 0 ≤ ((a * d - c * b).natAbs : Int) * f ∧ ((a * d - c * b).natAbs : Int) * f ≤ 2000000
  o2 : 0 ≤ ((a * d - c * b).natAbs : Int) * f * h ∧ ((a * d - c * b).natAbs : Int) * f * h ≤ 200000000
  t1 : 0 ≤ ((e * h - g * f).natAbs : Int) * b ∧ ((e * h - g * f).natAbs : Int) * b ≤ 2000000
  t2 : 0 ≤ ((e * h - g * f).natAbs : Int) * b * d ∧ ((e * h - g * f).natAbs : Int) * b * d ≤ 200000000
  n1 : -10000 ≤ a * f ∧ a * f ≤ 10000
  n2 : -10000 ≤ e * b ∧ e * b ≤ 10000
  n3 : -10000 ≤ b * f ∧ b * f ≤ 10000
theorem betwBd {a b c d e f g h : Int} (hp : CoP ((a, b), (c, d))) (hq : CoP ((e, f), (g, h))) : BetwBd a b c d e f g h := by
  have n1 := coordQ_bd hp.1
  have n2 := coordQ_bd hp.2
  have n3 := coordQ_bd hq.1
  have n4 := coordQ_bd hq.2
  simp only at n1 n2 n3 n4
  have m1 := bd2 (a := a) (b := d) (m := 100) (k := 100) (by omega) (by omega) (by omega)
  have m2 := bd2 (a := c) (b := b) (m := 100) (k := 100) (by omega) (by omega) (by omega)
  have m3 := bd2 (a := e) (b := h) (m := 100) (k := 100) (by omega) (by omega) (by omega)
  have m4 := bd2 (a := g) (b := f) (m := 100) (k := 100) (by omega) (by omega) (by omega)
  have k1 := bd2 (a := a) (b := f) (m := 100) (k := 100) (by omega) (by omega) (by omega)
  have k2 := bd2 (a := e) (b := b) (m := 100) (k := 100) (by omega) (by omega) (by omega)
  have k3 := bd2 (a := b) (b := f) (m := 100) (k := 100) (by omega) (by omega) (by omega)
  have o1 := mul_fits (a := ((a * d - c * b).natAbs : Int)) (b := f) (m := 20000) (k := 100) (by omega) (by omega) (by omega) (by omega)
  have o2 := mul_fits (a := ((a * d - c * b).natAbs : Int) * f) (b := h) (m := 2000000) (k := 100) o1.1 (by omega) (by omega) (by omega)
  have t1 := mul_fits (a := ((e * h - g * f).natAbs : Int)) (b := b) (m := 20000) (k := 100) (by omega) (by omega) (by omega) (by omega)
  have t2 := mul_fits (a := ((e * h - g * f).natAbs : Int) * b) (b := d) (m := 2000000) (k := 100) t1.1 (by omega) (by omega) (by omega)
  exact ⟨by omega, by omega, by omega, by omega, by omega, by omega, by omega, by omega, by omega, by omega, by omega⟩

/-- The denominator that the program hands on is not 0. -/
theorem betw_pos {a b c d e f g h : Int} (hp : CoP ((a, b), (c, d))) (hq : CoP ((e, f), (g, h))) (hc : crossF ((a, b), (c, d)) ((e, f), (g, h)) = true) :
    b * f * (((a * d - c * b).natAbs : Int) * f * h + ((e * h - g * f).natAbs : Int) * b * d) ≠ 0 := by
  obtain ⟨_, _, _, _, _, _, _, _, _, _, _, _, hb⟩ := betw_is hp hq hc
  intro h0
  have := hb.flag
  unfold betwQ betw1 betw2 at this
  simp only [absI_nat] at this
  rw [h0, lowQ_zero] at this
  simp at this

theorem abs_same (n : Int) (h : -9223372036854775807 ≤ n ∧ n ≤ 9223372036854775807) (w : World) :
    Calls Tryz.prog 185 #[.int .i64 n] w fun e w' => e = .returned (.int .i64 (n.natAbs : Int)) ∧ w' = w := (abs_any n h w).mono fun _ _ k => ⟨k.1, k.2.symm⟩
set_option maxRecDepth 100000 in
set_option maxHeartbeats 3200000 in
theorem fixedBetween_is (a b c d e f g h x1 x2 : Int) (t : Bool) (w : World) (hp : CoP ((a, b), (c, d))) (hq : CoP ((e, f), (g, h))) (hc : crossF ((a, b), (c, d)) ((e, f), (g, h)) = true) (hx : betwQ ((a, b), (c, d)) ((e, f), (g, h)) = (x1, x2, t)) :
    Calls Tryz.prog 169 #[.agg #[.int .i64 a, .int .i64 b, .int .i64 c, .int .i64 d], .agg #[.int .i64 e, .int .i64 f, .int .i64 g, .int .i64 h]] w fun e w' => e = .returned (.agg #[.int .i64 x1, .int .i64 x2]) ∧ Below w.heap.size w w' := by
  obtain ⟨m1, m2, m3, m4, o1, o2, t1, t2, n1, n2, n3⟩ := betwBd hp hq
  have hne := betw_pos hp hq hc
  have hlow : lowQ (a * f * (((e * h - g * f).natAbs : Int) * b * d) + e * b * (((a * d - c * b).natAbs : Int) * f * h)) (b * f * (((a * d - c * b).natAbs : Int) * f * h + ((e * h - g * f).natAbs : Int) * b * d)) = (x1, x2, t) := by
    rw [← hx]; unfold betwQ betw1 betw2; simp only [absI_nat]
  have HL := Lib.hid hlow
  have HNE := Lib.hid hne
  have k1 := bd2 n1 (show -200000000 ≤ ((e * h - g * f).natAbs : Int) * b * d ∧ ((e * h - g * f).natAbs : Int) * b * d ≤ 200000000 by omega) (by omega)
  have k2 := bd2 n2 (show -200000000 ≤ ((a * d - c * b).natAbs : Int) * f * h ∧ ((a * d - c * b).natAbs : Int) * f * h ≤ 200000000 by omega) (by omega)
  have k3 := bd2 n3 (show -400000000 ≤ ((a * d - c * b).natAbs : Int) * f * h + ((e * h - g * f).natAbs : Int) * b * d ∧ ((a * d - c * b).natAbs : Int) * f * h + ((e * h - g * f).natAbs : Int) * b * d ≤ 400000000 by omega) (by omega)
  have w1 : IntKind.i64.wrap (a * d) = a * d := IntWalk.i64_in _ (by omega)
  have w2 : IntKind.i64.wrap (c * b) = c * b := IntWalk.i64_in _ (by omega)
  have w3 : IntKind.i64.wrap (e * h) = e * h := IntWalk.i64_in _ (by omega)
  have w4 : IntKind.i64.wrap (g * f) = g * f := IntWalk.i64_in _ (by omega)
  have w5 : IntKind.i64.wrap (a * d - c * b) = a * d - c * b := IntWalk.i64_in _ (by omega)
  have w6 : IntKind.i64.wrap (e * h - g * f) = e * h - g * f := IntWalk.i64_in _ (by omega)
  have w7 : IntKind.i64.wrap (((a * d - c * b).natAbs : Int) * f) = ((a * d - c * b).natAbs : Int) * f := IntWalk.i64_in _ (by omega)
  have w8 : IntKind.i64.wrap (((a * d - c * b).natAbs : Int) * f * h) = ((a * d - c * b).natAbs : Int) * f * h := IntWalk.i64_in _ (by omega)
  have w9 : IntKind.i64.wrap (((e * h - g * f).natAbs : Int) * b) = ((e * h - g * f).natAbs : Int) * b := IntWalk.i64_in _ (by omega)
  have w10 : IntKind.i64.wrap (((e * h - g * f).natAbs : Int) * b * d) = ((e * h - g * f).natAbs : Int) * b * d := IntWalk.i64_in _ (by omega)
  have w11 : IntKind.i64.wrap (a * f) = a * f := IntWalk.i64_in _ (by omega)
  have w12 : IntKind.i64.wrap (e * b) = e * b := IntWalk.i64_in _ (by omega)
  have w13 : IntKind.i64.wrap (b * f) = b * f := IntWalk.i64_in _ (by omega)
  have hA1 : -9223372036854775807 ≤ a * d - c * b ∧ a * d - c * b ≤ 9223372036854775807 := by omega
  have hA2 : -9223372036854775807 ≤ e * h - g * f ∧ e * h - g * f ≤ 9223372036854775807 := by omega
  generalize hO : ((a * d - c * b).natAbs : Int) * f * h = O at *
  generalize hT : ((e * h - g * f).natAbs : Int) * b * d = T at *
  have w14 : IntKind.i64.wrap (a * f * T) = a * f * T := IntWalk.i64_in _ (by omega)
  have w15 : IntKind.i64.wrap (e * b * O) = e * b * O := IntWalk.i64_in _ (by omega)
  have w16 : IntKind.i64.wrap (a * f * T + e * b * O) = a * f * T + e * b * O := IntWalk.i64_in _ (by omega)
  have w17 : IntKind.i64.wrap (O + T) = O + T := IntWalk.i64_in _ (by omega)
  have w18 : IntKind.i64.wrap (b * f * (O + T)) = b * f * (O + T) := IntWalk.i64_in _ (by omega)
  have hN : -4000000000000000000 ≤ a * f * T + e * b * O ∧ a * f * T + e * b * O ≤ 4000000000000000000 := by omega
  have hD : -4000000000000000000 ≤ b * f * (O + T) ∧ b * f * (O + T) ≤ 4000000000000000000 := by omega
  clear hp hq hc hx hne hlow m1 m2 m3 m4 o1 o2 t1 t2 n1 n2 n3 k1 k2 k3
  go_enter Tryz.func169, Tryz.ntmps169
  go_wp2_with fail
  go_quiet ((first | (go_at_call 185; exact Calls.quiet_of_same (abs_same (a * d - c * b) hA1 _)) | (go_at_call 185; exact Calls.quiet_of_same (abs_same (e * h - g * f) hA2 _))))
  go_wp2_with fail
  go_quiet (fail)
  go_wp2_with fail
  refine (lowest_any _ _ x1 x2 t HL.out hN HNE.out hD _).mono ?_
  rintro e w1 ⟨rfl, hb⟩
  have hB := nextB (B := w.heap.size) (w := w) (below_drewN (by go_grown) _) (by go_size) hb
  obtain ⟨r0, r0'⟩ : Slot w1 (w.heap.size + 2) 0 (.int .i64 0) := slotB hb ⟨by simp [go_sem], by simp [go_sem]⟩
  obtain ⟨r1, r1'⟩ : Slot w1 (w.heap.size + 2) 1 (.int .i64 0) := slotB hb ⟨by simp [go_sem], by simp [go_sem]⟩
  have hz := lt_of_cell r0
  go_wp2_with fail
  refine bodyPost_ret (v := .agg #[.int .i64 x1, .int .i64 x2]) (by simp [results, Tryz.results169, go_sem, r0, r1, hz]) rfl ⟨rfl, ?_⟩
  go_grown

end Go.Proofs.YtkeajfgcjmhmiaaGreat
