/- Proved: for all fractions, the program's DivideRats returns what the reference's returns, and the arguments read afterwards as they did. No condition. -/
import Derived.Test.YtnlapkdmjlcedaaLawTwo
import Derived.Test.YtnlapkdmjlcedaaRat5
import Derived.Test.YtnlapkdmjlcedaaRat6

namespace Go.Proofs.Ytnlapkdmjlcedaa.lawDivideRats
open Go.Proofs.Ytnlapkdmjlcedaa
open Go.ChangeShapes Go.WideShapes Go.ChangeAt Go.RowKit Go.Joins
attribute [local go_sem ↓] Go.wp_at_zero Go.wp_at_succ

set_option maxHeartbeats 1600000 in
theorem walk (n1 d1 n2 d2 a b : Int) (t : Bool) (h : divQ n1 d1 n2 d2 = (a, b, t)) (w : World) :
    Calls Try.prog 12 #[.agg #[.int .i64 n1, .int .i64 d1], .agg #[.int .i64 n2, .int .i64 d2]] w fun e w' => e = .returned (.bool true) ∧ Below w.heap.size w w' := by
  have HL := Lib.hid h
  clear h
  go_enter Try.func12, Try.ntmps12
  go_wp2_with fail
  go_cut [5, 6] (fun s5 s6 wx => Cut1 w n1 d1 n2 d2 a b t s5 s6 wx)
  case first =>
    go_region_held3 (fun w' => w'.cell? ⟨w.heap.size, 0, none⟩ = some (.int .i64 n1) ∧ w'.cell? ⟨w.heap.size, 1, none⟩ = some (.int .i64 d1) ∧ w'.cell? ⟨w.heap.size + 1, 0, none⟩ = some (.int .i64 n2) ∧ w'.cell? ⟨w.heap.size + 1, 1, none⟩ = some (.int .i64 d2))
      ((first | exact Box2.start _ _ _ _ _ _ | exact k3 | exact k2 | exact k1 | exact (k3.alloc _) | exact (k2.alloc _) | exact (k1.alloc _) | exact Box2.alloc (by assumption) _ | exact Box2.store (Box2.store k3 _ (by omega)) _ (by omega)))
      ((first
        | (go_at_call 16; (with_reducible refine (toRat_any n1 d1 _).mono ?_); rintro e w1 ⟨rfl, hb1⟩; have k1 := Box2.keep (w := w) (n1 := n1) (d1 := d1) (n2 := n2) (d2 := d2) (by assumption) hb1; have hB1 := nextB (B := w.heap.size) (w := w) (by go_grown) (by go_size) hb1; have z1 := k1.lt; (first | (with_reducible have ps1 := twoNew2 26 hb1) | skip | skip))
        | (go_at_call 16; (with_reducible refine (toRat_any n2 d2 _).mono ?_); rintro e w2 ⟨rfl, hb2⟩; have k2 := Box2.keep (w := w) (n1 := n1) (d1 := d1) (n2 := n2) (d2 := d2) (by assumption) hb2; have hB2 := nextB (B := w.heap.size) (w := w) (by go_grown) (by go_size) hb2; have z2 := k2.lt; (first | (with_reducible have ps2 := twoNew 26 hb2) | (with_reducible have ps2 := twoB hb2 ps1) | skip))
        | (go_at_call 33; (with_reducible refine (sDiv_any _ _ _ _ a b t HL.out _).mono ?_); rintro e w3 ⟨rfl, hb3⟩; have k3 := Box2.keep (w := w) (n1 := n1) (d1 := d1) (n2 := n2) (d2 := d2) (by assumption) hb3; have hB3 := nextB (B := w.heap.size) (w := w) (by go_grown) (by go_size) hb3; have z3 := k3.lt; (first | (with_reducible have ps3 := twoNew 26 hb3) | (with_reducible have ps3 := twoB hb3 ps2) | skip); (first | obtain ⟨⟨p0, f0⟩, p1, f1⟩ := ps3 | skip))))
    all_goals (go_wp2_with fail; go_meet; first | exact Cut1.stored ⟨p0, f0⟩ ⟨p1, f1⟩ (by omega) k3 hB3 | exact Cut1.made k3 hB3)
  case rest =>
    obtain ⟨⟨g, rfl, hg, s0, s1⟩, rfl, kb, hB⟩ := hcut
    have k0 : Box2G w n1 d1 n2 d2 g a b wc := ⟨kb, s0, s1⟩
    have hgl := k0.lt
    clear kb s0 s1
    go_wp2_with fail
    go_cut [7, 8] (fun s7 s8 wx => Cut2 w g a b t s7 s8 wx)
    case first =>
      go_region_held3 (fun w' => w'.cell? ⟨w.heap.size, 0, none⟩ = some (.int .i64 n1) ∧ w'.cell? ⟨w.heap.size, 1, none⟩ = some (.int .i64 d1) ∧ w'.cell? ⟨w.heap.size + 1, 0, none⟩ = some (.int .i64 n2) ∧ w'.cell? ⟨w.heap.size + 1, 1, none⟩ = some (.int .i64 d2))
        ((first | exact k0.1 | exact k3.1 | exact k2.1 | exact k1.1 | exact (k3.alloc _).1 | exact (k2.alloc _).1 | exact (k1.alloc _).1 | exact (k0.alloc _).1 | exact Box2.store (Box2.store k3.1 _ (by omega)) _ (by omega)))
        ((first
          | (go_at_call 16; (with_reducible refine (toRat_any n1 d1 _).mono ?_); rintro e w1 ⟨rfl, hb1⟩; (first | (with_reducible have k1 := Box2G.keepD (w := w) (n1 := n1) (d1 := d1) (n2 := n2) (d2 := d2) (g := g) (a := a) (b := b) (k0.alloc _) hb1) | have k1 := Box2G.keepD (w := w) (n1 := n1) (d1 := d1) (n2 := n2) (d2 := d2) (g := g) (a := a) (b := b) k0 hb1); have hB1 := nextB (B := w.heap.size) (w := w) (by go_grown) (by go_size) hb1; have z1 := k1.lt; (first | (with_reducible have ps1 := twoNewD 26 hb1) | skip | skip))
          | (go_at_call 16; (with_reducible refine (toRat_any n2 d2 _).mono ?_); rintro e w2 ⟨rfl, hb2⟩; (first | (with_reducible have k2 := Box2G.keep (w := w) (n1 := n1) (d1 := d1) (n2 := n2) (d2 := d2) (g := g) (a := a) (b := b) k1 hb2) | have k2 := Box2G.keep (w := w) (n1 := n1) (d1 := d1) (n2 := n2) (d2 := d2) (g := g) (a := a) (b := b) (k1.alloc _) hb2); have hB2 := nextB (B := w.heap.size) (w := w) (by go_grown) (by go_size) hb2; have z2 := k2.lt; (first | (with_reducible have ps2 := twoNew 26 hb2) | (with_reducible have ps2 := twoB hb2 ps1) | skip))
          | (go_at_call 34; (with_reducible refine (divRats_any _ _ _ _ a b t HL.out _).mono ?_); rintro e w3 ⟨rfl, hb3⟩; (first | (with_reducible have k3 := Box2G.keep (w := w) (n1 := n1) (d1 := d1) (n2 := n2) (d2 := d2) (g := g) (a := a) (b := b) k2 hb3) | have k3 := Box2G.keep (w := w) (n1 := n1) (d1 := d1) (n2 := n2) (d2 := d2) (g := g) (a := a) (b := b) (k2.alloc _) hb3); have hB3 := nextB (B := w.heap.size) (w := w) (by go_grown) (by go_size) hb3; have z3 := k3.lt; (first | (with_reducible have ps3 := twoNew 26 hb3) | (with_reducible have ps3 := twoB hb3 ps2) | skip); (first | obtain ⟨⟨p0, f0⟩, p1, f1⟩ := ps3 | skip))))

      all_goals (go_wp2_with fail; go_meet; first | exact Cut2.stored ⟨p0, f0⟩ ⟨p1, f1⟩ (by omega) (by omega) k3 hB3 | exact Cut2.made k3 hB3)
    case rest =>
      obtain ⟨⟨g', rfl, hgg, ⟨q0, _⟩, q1, _⟩, rfl, ⟨r0, _⟩, ⟨r1, _⟩, hB2⟩ := hcut
      clear k0 hB hgl
      go_wp2_with fail
      refine (eqRat_same a b _).mono ?_
      rintro e w5 ⟨rfl, hb5⟩
      have hB5 := nextW hB2 hb5
      go_wp2_with fail
      go_ret
      exact ⟨rfl, hB5⟩

set_option maxRecDepth 100000 in
theorem lifted (os : Os) (started : os.Started) (H : Type) (enc : TypeId × Value → H) :
    ReturnsInHanded {} Try.checked os 12 .any (Rows.fnExactDivideRatsSpec.pre6 enc Try.prog Try.f12 Rows.fnExactDivideRatsRow.domain false) (Rows.fnExactDivideRatsSpec.post enc Try.prog Try.f12 false true false false) := by
  refine returnsInHanded_of_change (C := Try.checked) Try.own started (by kernel_rfl) Try.func12
    (ChangeSpec.witness6 (enc := enc) (C := Try.checked) false ⟨#[], #[.agg #[.int .i64 0, .int .i64 1], .agg #[.int .i64 0, .int .i64 1]], []⟩ 8 (by kernel_rfl) (by kernel_rfl) (by kernel_rfl) (by kernel_rfl)) ?_
  intro W base args ds gs before hval0 hW hcnd _
  have hval : ∀ (j : Nat) t v, Try.f12.params[j]? = some t → args[j]? = some v → Value.okWide Try.prog W .any base t v := hval0
  have hW' := hW
  obtain ⟨p, q, hA0, hV, rfl, hfz, hnd⟩ := hW
  have hA : DataW.TrodAll enc Try.prog W 0 (fun _ => true) true Try.f12.params.toList args.toList ds p := hA0
  rw [Try.params12] at hA hval
  obtain ⟨v0, v1, d0, d1, p0, p1, rfl, rfl, rfl, h0, h1⟩ := trodAll_two hA
  obtain ⟨n1, m1, rfl, bn1, bm1⟩ := open_rat (hval 0 24 v0 rfl rfl) h0
  obtain ⟨n2, m2, rfl, bn2, bm2⟩ := open_rat (hval 1 24 v1 rfl rfl) h1
  refine (walk n1 m1 n2 m2 _ _ _ rfl W).mono fun e W' ⟨he, hb⟩ => ?_
  subst he
  exact ⟨_, rfl, law_close Try.laidOut (by kernel_rfl) (by kernel_rfl) Try.underlying4 rfl hW' (fun h => by rfl) hb⟩

theorem proved : Rows.FnExactDivideRatsSaid :=
  OpenClaim.holds_of_wide 12 Try.f12 rfl rfl rfl rfl rfl rfl rfl ⟨rfl, rfl, rfl, rfl, rfl⟩ rfl rfl rfl rfl rfl (by kernel_rfl) Try.func12 (by kernel_rfl)
    (of_decide_eq_true (by kernel_rfl)) (by unfold Func.isWrapper; first | (rw [if_pos (by decide +kernel)]; kernel_rfl) | (rw [if_neg (by decide +kernel)]; exact ⟨rfl, rfl⟩))
    (fun os started H enc _ => lifted os started H enc)

end Go.Proofs.Ytnlapkdmjlcedaa.lawDivideRats
