/- Proved: for all drawn maps, refined and joined ones keep their values, middles lie between, and clamped ones stay within their bounds; the arguments read afterwards as they did. No condition. -/
import Derived.Test.YtkeajfgcjmhmiaaGreatJ2
import Derived.Test.YtkeajfgcjmhmiaaGreatJ26
import Derived.Test.YtkeajfgcjmhmiaaGreatJ38
import Derived.Test.YtkeajfgcjmhmiaaGreatJ39
import Derived.Test.YtkeajfgcjmhmiaaGreatJ40
import Derived.Test.YtkeajfgcjmhmiaaGreatJ46
import Derived.Test.YtkeajfgcjmhmiaaGreatJ47
import Derived.Test.YtkeajfgcjmhmiaaGreatJ48
import Derived.Test.YtkeajfgcjmhmiaaGreatJ49
import Derived.Test.YtkeajfgcjmhmiaaGreatJ51
import Derived.Test.YtkeajfgcjmhmiaaGreatJ6
namespace Go.Proofs.YtkeajfgcjmhmiaaGreat.lawFnMixedMaps
open Go.Proofs.YtkeajfgcjmhmiaaGreat
open Go.ChangeShapes Go.WideShapes Go.ChangeAt Go.RowKit Go.Joins

theorem pLess_val {n1 d1 n2 d2 : Int} {r : Bool} (s1 : Sm n1 ∧ Sm d1) (s2 : Sm n2 ∧ Sm d2) (h : lessQ n1 d1 n2 d2 = r) (w : World) :
    Calls Tryz.prog 33 #[.agg #[.int .i64 n1, .int .i64 d1], .agg #[.int .i64 n2, .int .i64 d2]] w fun e w' => e = .returned (.bool r) ∧ Below w.heap.size w w' := by
  subst h; exact pLess_is n1 d1 n2 d2 s1 s2 w
structure ClampLaw (lo hi : Q) (c : List Pt) : Prop where
  slo : Sm lo.1 ∧ Sm lo.2
  shi : Sm hi.1 ∧ Sm hi.2
  pt : ∀ (k : Nat) (p : Pt), c[k]? = some p → (Sm p.2.1 ∧ Sm p.2.2) ∧ lessQ p.2.1 p.2.2 lo.1 lo.2 = false ∧ lessQ hi.1 hi.2 p.2.1 p.2.2 = false
theorem clamp_law {f c : List Pt} {lo hi : Q} (h : clampQ f lo hi = (c, true)) : ClampLaw lo hi c := by
  obtain ⟨hf, h1, h2, hl, -⟩ := clamp_parts h
  obtain ⟨hm, -, hr⟩ := clamp_range h
  have k1 := unitQ_ok h1
  have k2 := unitQ_ok h2
  refine ⟨Sm.of_ok k1, Sm.of_ok k2, fun k p hp => ?_⟩
  have hmem := List.mem_of_getElem? hp
  have k3 := unitQ_ok (coordQ_unit (okMap_coP hm p hmem).2)
  obtain ⟨g1, g2⟩ := hr p hmem
  have e1 := lessQ_iff (n1 := p.2.1) (n2 := lo.1) (okQ_bd k3).1 (okQ_bd k1).1
  have e2 := lessQ_iff (n1 := hi.1) (n2 := p.2.1) (okQ_bd k2).1 (okQ_bd k3).1
  change _ ↔ toR p.2 < toR lo at e1
  change _ ↔ toR hi < toR p.2 at e2
  refine ⟨Sm.of_ok k3, ?_, ?_⟩
  · rw [← Bool.not_eq_true]; intro hh; have := e1.1 hh; grind
  · rw [← Bool.not_eq_true]; intro hh; have := e2.1 hh; grind
set_option maxRecDepth 100000 in
set_option maxHeartbeats 12800000 in
theorem walk (v u : Value) (bs cs : List Int) (w : World) (hv : RdN .u8 w v bs) (hu : RdN .u8 w u cs) (hbs : ∀ x ∈ bs, 0 ≤ x ∧ x ≤ 255) (hcs : ∀ x ∈ cs, 0 ≤ x ∧ x ≤ 255) :
    Calls Tryz.prog 4 #[v, u] w fun e w' => e = .returned (.bool true) ∧ Below w.heap.size w w' := by
  have HV := Lib.hid hv
  have HU := Lib.hid hu
  have HBs := Lib.hid hbs
  have HCs := Lib.hid hcs
  obtain ⟨A, cv, rfl, -, -, -⟩ := hv
  obtain ⟨A2, cu, rfl, -, -, -⟩ := hu
  clear hbs hcs
  rcases hbig : bigB bs.length cs.length with _ | _
  rotate_left
  · have HBg := Lib.hid hbig
    clear hbig
    go_enter Tryz.func4, Tryz.ntmps4
    go_wp2_with fail
    refine (big_is _ _ bs cs _ (HV.out.keep (by go_grown)) (HU.out.keep (by go_grown))).mono ?_
    rintro e w1 ⟨he, hb⟩
    rw [HBg.out] at he
    subst he
    have hX : Below w.heap.size w w1 := nextX (by go_grown) hb
    replace HV := Lib.hid (HV.out.keep hX)
    replace HU := Lib.hid (HU.out.keep hX)
    have hB : Below w.heap.size w w1 := hX
    clear hb hX
    go_wp2_with fail
    go_ret
    exact ⟨rfl, nextX hB (by go_grown)⟩
  have HBg := Lib.hid hbig
  clear hbig
  go_enter Tryz.func4, Tryz.ntmps4
  go_wp2_with fail
  refine (big_is _ _ bs cs _ (HV.out.keep (by go_grown)) (HU.out.keep (by go_grown))).mono ?_
  rintro e w1 ⟨he, hb⟩
  rw [HBg.out] at he
  subst he
  have hX : Below w.heap.size w w1 := nextX (by go_grown) hb
  replace HV := Lib.hid (HV.out.keep hX)
  replace HU := Lib.hid (HU.out.keep hX)
  have hB : Below w.heap.size w w1 := hX
  clear hb hX
  go_wp2_with fail
  refine (drawRefine_is _ bs _ (HV.out.keep (by go_grown)) HBs.out).mono ?_
  rintro e w2 ⟨r, r2, ps, xs, rfl, hr, hr2, hpl, hb⟩
  have hX : Below w1.heap.size w1 w2 := nextX (by go_grown) hb
  replace HV := Lib.hid (HV.out.keep hX)
  replace HU := Lib.hid (HU.out.keep hX)
  replace hB := nextW hB hX
  clear hb hX
  have HF := Lib.hid hr.read
  have HX := Lib.hid hr2.read
  clear hr hr2
  obtain ⟨⟨m, t⟩, hHC⟩ : ∃ r, refineQ ps xs = r := ⟨_, rfl⟩
  have HC := Lib.hid hHC
  clear hHC
  have hml := refineQ_len HC.out
  go_wp2_with fail
  refine (iRefineMap_is ps xs _ _ m t HC.out _ (HF.out.keep (by go_grown)) (HX.out.keep (by go_grown)) (by omega) (by omega)).mono ?_
  rintro e w3 ⟨vHI, rfl, hi, hb⟩
  have hX : Below w2.heap.size w2 w3 := nextX (by go_grown) hb
  replace HV := Lib.hid (HV.out.keep hX)
  replace HU := Lib.hid (HU.out.keep hX)
  replace HF := Lib.hid (HF.out.keep hX)
  replace HX := Lib.hid (HX.out.keep hX)
  replace hB := nextW hB hX
  clear hb hX
  have HI := Lib.hid (hi.read)
  clear hi
  go_wp2_with fail
  refine (sRefineMap_is ps xs _ _ m t HC.out _ (HF.out.keep (by go_grown)) (HX.out.keep (by go_grown)) (by omega) (by omega)).mono ?_
  rintro e w4 ⟨vHS, rfl, hi, hb⟩
  have hX : Below w3.heap.size w3 w4 := nextX (by go_grown) hb
  replace HV := Lib.hid (HV.out.keep hX)
  replace HU := Lib.hid (HU.out.keep hX)
  replace HF := Lib.hid (HF.out.keep hX)
  replace HX := Lib.hid (HX.out.keep hX)
  replace HI := Lib.hid (HI.out.keep hX)
  replace hB := nextW hB hX
  clear hb hX
  have HS := Lib.hid (hi.read)
  clear hi
  obtain ⟨FA, fc, hsv, hfl, hfm, -⟩ := HF.out
  subst hsv
  obtain ⟨SA, sc, hsv, hsl, hsm, -⟩ := HS.out
  subst hsv
  unfold maxLen at hfm hsm
  go_upto_region 6 with fail
  go_cut [81] (fun c wx => c = .bool false ∧ Below w4.heap.size w4 wx)
  case first => as_aux_lemma =>
    go_wp2_with fail
    refine (pSame_same m _ _ _ (HI.out.keep (by go_grown)) (HS.out.keep (by go_grown))).mono ?_
    rintro e w5 ⟨rfl, hb⟩
    have hX : Below w4.heap.size w4 w5 := nextX (by go_grown) hb
    replace HV := Lib.hid (HV.out.keep hX)
    replace HU := Lib.hid (HU.out.keep hX)
    replace HF := Lib.hid (HF.out.keep hX)
    replace HX := Lib.hid (HX.out.keep hX)
    replace HI := Lib.hid (HI.out.keep hX)
    replace HS := Lib.hid (HS.out.keep hX)
    have hC : Below w4.heap.size w4 w5 := hX
    clear hb hX
    go_wp2_with fail
    go_meet
    exact ⟨by first | rfl | (simp; done), by first | exact Below.refl _ _ | exact nextX hC (by go_grown) | go_grown⟩
  case rest => as_aux_lemma =>
    obtain ⟨rfl, hX⟩ := hcut
    obtain ⟨w6, hwc⟩ : ∃ X : World, X = wc := ⟨_, rfl⟩
    subst hwc
    replace HV := Lib.hid (HV.out.keep hX)
    replace HU := Lib.hid (HU.out.keep hX)
    replace HF := Lib.hid (HF.out.keep hX)
    replace HX := Lib.hid (HX.out.keep hX)
    replace HI := Lib.hid (HI.out.keep hX)
    replace HS := Lib.hid (HS.out.keep hX)
    replace hB := nextW hB hX
    clear hX
    go_upto_if 82 with fail
    go_cut [] (fun wx => Below w6.heap.size w6 wx)
    case first => as_aux_lemma =>
      rcases t with _ | _
      · go_wp2_with fail
        go_meet
        first | exact Below.refl _ _ | go_grown
      · obtain ⟨hmm, hlen, hsame⟩ := refine_law HC.out
        have kb : ¬ (m.length : Int) < (ps.length : Int) := by omega
        have kd : decide ((m.length : Int) < (ps.length : Int)) = false := decide_eq_false kb
        go_wp2_with fail
        refine (iAreSameMap_is ps m _ _ true true hsame _ (HF.out.keep (by go_grown)) (HI.out.keep (by go_grown)) (by omega) hml).mono ?_
        rintro e w7 ⟨rfl, hb⟩
        have hX : Below w6.heap.size w6 w7 := nextX (by go_grown) hb
        replace HV := Lib.hid (HV.out.keep hX)
        replace HU := Lib.hid (HU.out.keep hX)
        replace HF := Lib.hid (HF.out.keep hX)
        replace HX := Lib.hid (HX.out.keep hX)
        replace HI := Lib.hid (HI.out.keep hX)
        replace HS := Lib.hid (HS.out.keep hX)
        have hC : Below w6.heap.size w6 w7 := hX
        clear hb hX
        go_wp2_with fail
        refine (implIsMap_is m _ true _ (HI.out.keep (by go_grown)) hml hmm).mono ?_
        rintro e w8 ⟨rfl, hb⟩
        have hX : Below w7.heap.size w7 w8 := nextX (by go_grown) hb
        replace HV := Lib.hid (HV.out.keep hX)
        replace HU := Lib.hid (HU.out.keep hX)
        replace HF := Lib.hid (HF.out.keep hX)
        replace HX := Lib.hid (HX.out.keep hX)
        replace HI := Lib.hid (HI.out.keep hX)
        replace HS := Lib.hid (HS.out.keep hX)
        replace hC := nextW hC hX
        clear hb hX
        go_wp2_with fail
        go_meet
        first | exact Below.refl _ _ | exact nextX hC (by go_grown) | go_grown
    case rest => as_aux_lemma =>
      have hX := hcut
      obtain ⟨w9, hwc⟩ : ∃ X : World, X = wc := ⟨_, rfl⟩
      subst hwc
      replace HV := Lib.hid (HV.out.keep hX)
      replace HU := Lib.hid (HU.out.keep hX)
      replace HF := Lib.hid (HF.out.keep hX)
      replace HX := Lib.hid (HX.out.keep hX)
      replace HI := Lib.hid (HI.out.keep hX)
      replace HS := Lib.hid (HS.out.keep hX)
      replace hB := nextW hB hX
      clear hX hcut
      clear HF HX HI HS HC HV
      clear hfl hfm hsl hsm
      go_wp2_with fail
      refine (drawClamp_is _ cs _ (HU.out.keep (by go_grown)) HCs.out).mono ?_
      rintro e w10 ⟨r3, gs, a1, a2, b1, b2, rfl, hr, hgl, hb⟩
      have hX : Below w9.heap.size w9 w10 := nextX (by go_grown) hb
      replace HU := Lib.hid (HU.out.keep hX)
      replace hB := nextW hB hX
      clear hb hX
      have HG := Lib.hid hr.read
      clear hr
      obtain ⟨⟨c, t2⟩, hHCl⟩ : ∃ r, clampQ gs (a1, a2) (b1, b2) = r := ⟨_, rfl⟩
      have HCl := Lib.hid hHCl
      clear hHCl
      have hcl := clampQ_len HCl.out
      go_wp2_with fail
      refine (iClampMap_is gs _ a1 a2 b1 b2 c t2 HCl.out _ (HG.out.keep (by go_grown)) (by omega)).mono ?_
      rintro e w11 ⟨vHI2, rfl, hi, hb⟩
      have hX : Below w10.heap.size w10 w11 := nextX (by go_grown) hb
      replace HU := Lib.hid (HU.out.keep hX)
      replace HG := Lib.hid (HG.out.keep hX)
      have ka0 : w11.cell? ⟨w10.heap.size, 0, none⟩ = some (.int .i64 a1) := cellB hb (by simp [go_sem])
      have zka0 := lt_of_cell ka0
      have ka1 : w11.cell? ⟨w10.heap.size, 1, none⟩ = some (.int .i64 a2) := cellB hb (by simp [go_sem])
      have kb0 : w11.cell? ⟨w10.heap.size + 1, 0, none⟩ = some (.int .i64 b1) := cellB hb (by simp [go_sem])
      have zkb0 := lt_of_cell kb0
      have kb1 : w11.cell? ⟨w10.heap.size + 1, 1, none⟩ = some (.int .i64 b2) := cellB hb (by simp [go_sem])
      replace hB := nextW hB hX
      clear hb hX
      have HI2 := Lib.hid (hi.read)
      clear hi
      go_wp2_with fail
      refine (sClampMap_is gs _ a1 a2 b1 b2 c t2 HCl.out _ (HG.out.keep (by go_grown)) (by omega)).mono ?_
      rintro e w12 ⟨vHS2, rfl, hi, hb⟩
      have hX : Below w11.heap.size w11 w12 := nextX (by go_grown) hb
      replace HU := Lib.hid (HU.out.keep hX)
      replace HG := Lib.hid (HG.out.keep hX)
      replace ka0 := cellB hX ka0
      replace zka0 := Nat.lt_of_lt_of_le zka0 hX.size
      replace ka1 := cellB hX ka1
      replace kb0 := cellB hX kb0
      replace zkb0 := Nat.lt_of_lt_of_le zkb0 hX.size
      replace kb1 := cellB hX kb1
      replace HI2 := Lib.hid (HI2.out.keep hX)
      replace hB := nextW hB hX
      clear hb hX
      have HS2 := Lib.hid (hi.read)
      clear hi
      obtain ⟨CA, cc, hsv, hsl2, hsm2, -⟩ := HS2.out
      subst hsv
      unfold maxLen at hsm2
      go_upto_region 15 with fail
      go_cut [135] (fun c wx => c = .bool false ∧ Below w12.heap.size w12 wx)
      case first => as_aux_lemma =>
        go_wp2_with fail
        refine (pSame_same c _ _ _ (HI2.out.keep (by go_grown)) (HS2.out.keep (by go_grown))).mono ?_
        rintro e w13 ⟨rfl, hb⟩
        have hX : Below w12.heap.size w12 w13 := nextX (by go_grown) hb
        replace HU := Lib.hid (HU.out.keep hX)
        replace HG := Lib.hid (HG.out.keep hX)
        replace ka0 := cellB hX ka0
        replace zka0 := Nat.lt_of_lt_of_le zka0 hX.size
        replace ka1 := cellB hX ka1
        replace kb0 := cellB hX kb0
        replace zkb0 := Nat.lt_of_lt_of_le zkb0 hX.size
        replace kb1 := cellB hX kb1
        replace HI2 := Lib.hid (HI2.out.keep hX)
        replace HS2 := Lib.hid (HS2.out.keep hX)
        have hC : Below w12.heap.size w12 w13 := hX
        clear hb hX
        go_wp2_with fail
        go_meet
        exact ⟨by first | rfl | (simp; done), by first | exact Below.refl _ _ | exact nextX hC (by go_grown) | go_grown⟩
      case rest => as_aux_lemma =>
        obtain ⟨rfl, hX⟩ := hcut
        obtain ⟨w14, hwc⟩ : ∃ X : World, X = wc := ⟨_, rfl⟩
        subst hwc
        replace HU := Lib.hid (HU.out.keep hX)
        replace HG := Lib.hid (HG.out.keep hX)
        replace ka0 := cellB hX ka0
        replace zka0 := Nat.lt_of_lt_of_le zka0 hX.size
        replace ka1 := cellB hX ka1
        replace kb0 := cellB hX kb0
        replace zkb0 := Nat.lt_of_lt_of_le zkb0 hX.size
        replace kb1 := cellB hX kb1
        replace HI2 := Lib.hid (HI2.out.keep hX)
        replace HS2 := Lib.hid (HS2.out.keep hX)
        replace hB := nextW hB hX
        clear hX
        go_upto_if 136 with fail
        go_cut [] (fun wx => Below w14.heap.size w14 wx)
        case first => as_aux_lemma =>
          rcases t2 with _ | _
          · go_wp2_with fail
            go_meet
            first | exact Below.refl _ _ | go_grown
          · have CL := Lib.hid (clamp_law HCl.out)
            go_wp2_with fail
            go_name_world w15 hW
            have hX : Below w14.heap.size w14 w15 := by rw [← hW]; go_grown
            replace HU := Lib.hid (HU.out.keep hX)
            replace HG := Lib.hid (HG.out.keep hX)
            replace ka0 := cellB hX ka0
            replace zka0 := Nat.lt_of_lt_of_le zka0 hX.size
            replace ka1 := cellB hX ka1
            replace kb0 := cellB hX kb0
            replace zkb0 := Nat.lt_of_lt_of_le zkb0 hX.size
            replace kb1 := cellB hX kb1
            replace HI2 := Lib.hid (HI2.out.keep hX)
            replace HS2 := Lib.hid (HS2.out.keep hX)
            have hC : Below w14.heap.size w14 w15 := hX
            clear hW hX
            go_loopw [139] (fun i wr => EqTo c.length w15 i wr) (fun i _ => c.length - (intOf i).toNat)
            case atStart => exact ⟨0, Nat.zero_le _, rfl, by first | exact Below.refl _ _ | go_grown⟩
            case round =>
              obtain ⟨k, hk, rfl, hbr⟩ := hrel
              by_cases hlt : k < c.length
              · have hq := List.getElem?_eq_getElem hlt
                generalize c[k] = p at hq
                obtain ⟨⟨x1, x2⟩, y1, y2⟩ := p
                obtain ⟨A3, c3, he, -, -, hcell⟩ := HS2.out.keep hbr
                injection he with e1 e2 e3
                obtain ⟨gg, os, hA, hgs, hc⟩ := hcell (by intro e; rw [e] at hlt; simp at hlt)
                rw [hA] at e1
                subst e1
                clear e2 e3 hA
                obtain ⟨c0, c1, c2, c3⟩ := hc k _ hq
                have kb9 : (k : Int) < ((c.length : Nat) : Int) := by omega
                have v2 : IntKind.i64.wrap ((k : Int) + 1) = (k : Int) + 1 := IntWalk.i64_in _ (by omega)
                obtain ⟨hsy, hl1, hl2⟩ := CL.out.pt k _ hq
                have SY := Lib.hid hsy
                have L1 := Lib.hid hl1
                have L2 := Lib.hid hl2
                clear hc hq hsy hl1 hl2
                replace HU := Lib.hid (HU.out.keep hbr)
                replace HG := Lib.hid (HG.out.keep hbr)
                replace ka0 := cellB hbr ka0
                replace zka0 := Nat.lt_of_lt_of_le zka0 hbr.size
                replace ka1 := cellB hbr ka1
                replace kb0 := cellB hbr kb0
                replace zkb0 := Nat.lt_of_lt_of_le zkb0 hbr.size
                replace kb1 := cellB hbr kb1
                replace HI2 := Lib.hid (HI2.out.keep hbr)
                replace HS2 := Lib.hid (HS2.out.keep hbr)
                go_wp2_with fail
                refine (pLess_val SY.out CL.out.slo L1.out _).mono ?_
                rintro e w16 ⟨rfl, hb⟩
                have hX : Below wr.heap.size wr w16 := nextX (by go_grown) hb
                replace HU := Lib.hid (HU.out.keep hX)
                replace HG := Lib.hid (HG.out.keep hX)
                replace ka0 := cellB hX ka0
                replace zka0 := Nat.lt_of_lt_of_le zka0 hX.size
                replace ka1 := cellB hX ka1
                replace kb0 := cellB hX kb0
                replace zkb0 := Nat.lt_of_lt_of_le zkb0 hX.size
                replace kb1 := cellB hX kb1
                replace HI2 := Lib.hid (HI2.out.keep hX)
                replace HS2 := Lib.hid (HS2.out.keep hX)
                replace c0 := cellB hX c0
                replace c1 := cellB hX c1
                replace c2 := cellB hX c2
                replace c3 := cellB hX c3
                have kx0 : w16.cell? ⟨wr.heap.size, 0, none⟩ = some (.int .i64 x1) := cellB hb (by simp [go_sem])
                have zkx0 := lt_of_cell kx0
                have kx1 : w16.cell? ⟨wr.heap.size, 1, none⟩ = some (.int .i64 x2) := cellB hb (by simp [go_sem])
                have kx2 : w16.cell? ⟨wr.heap.size, 2, none⟩ = some (.int .i64 y1) := cellB hb (by simp [go_sem])
                have kx3 : w16.cell? ⟨wr.heap.size, 3, none⟩ = some (.int .i64 y2) := cellB hb (by simp [go_sem])
                have hRr : Below wr.heap.size wr w16 := hX
                clear hb hX
                go_wp2_with fail
                refine (pLess_val CL.out.shi SY.out L2.out _).mono ?_
                rintro e w17 ⟨rfl, hb⟩
                have hX : Below w16.heap.size w16 w17 := nextX (by go_grown) hb
                replace HU := Lib.hid (HU.out.keep hX)
                replace HG := Lib.hid (HG.out.keep hX)
                replace ka0 := cellB hX ka0
                replace zka0 := Nat.lt_of_lt_of_le zka0 hX.size
                replace ka1 := cellB hX ka1
                replace kb0 := cellB hX kb0
                replace zkb0 := Nat.lt_of_lt_of_le zkb0 hX.size
                replace kb1 := cellB hX kb1
                replace HI2 := Lib.hid (HI2.out.keep hX)
                replace HS2 := Lib.hid (HS2.out.keep hX)
                replace c0 := cellB hX c0
                replace c1 := cellB hX c1
                replace c2 := cellB hX c2
                replace c3 := cellB hX c3
                replace kx0 := cellB hX kx0
                replace zkx0 := Nat.lt_of_lt_of_le zkx0 hX.size
                replace kx1 := cellB hX kx1
                replace kx2 := cellB hX kx2
                replace kx3 := cellB hX kx3
                replace hRr := nextW hRr hX
                clear hb hX
                go_wp2_with fail
                go_roundw
                case rel => exact ⟨k + 1, by omega, by go_num, nextW hbr (nextX hRr (by go_grown))⟩
                case measure => simp [intOf] <;> omega
              · obtain rfl : k = c.length := by omega
                replace HU := Lib.hid (HU.out.keep hbr)
                replace HG := Lib.hid (HG.out.keep hbr)
                replace ka0 := cellB hbr ka0
                replace zka0 := Nat.lt_of_lt_of_le zka0 hbr.size
                replace ka1 := cellB hbr ka1
                replace kb0 := cellB hbr kb0
                replace zkb0 := Nat.lt_of_lt_of_le zkb0 hbr.size
                replace kb1 := cellB hbr kb1
                replace HI2 := Lib.hid (HI2.out.keep hbr)
                replace HS2 := Lib.hid (HS2.out.keep hbr)
                replace hC := nextW hC hbr
                clear hbr hk hlt
                go_wp2_with fail
                refine (iClampMap_is c _ a1 a2 b1 b2 c true (clamp_again HCl.out) _ (HI2.out.keep (by go_grown)) hcl).mono ?_
                rintro e w16 ⟨v9, rfl, hi, hb⟩
                have hX : Below wr.heap.size wr w16 := nextX (by go_grown) hb
                replace HU := Lib.hid (HU.out.keep hX)
                replace HG := Lib.hid (HG.out.keep hX)
                replace ka0 := cellB hX ka0
                replace zka0 := Nat.lt_of_lt_of_le zka0 hX.size
                replace ka1 := cellB hX ka1
                replace kb0 := cellB hX kb0
                replace zkb0 := Nat.lt_of_lt_of_le zkb0 hX.size
                replace kb1 := cellB hX kb1
                replace HI2 := Lib.hid (HI2.out.keep hX)
                replace HS2 := Lib.hid (HS2.out.keep hX)
                replace hC := nextW hC hX
                clear hb hX
                have HA := Lib.hid (hi.read)
                clear hi
                go_wp2_with fail
                refine (pSame_same c _ _ _ (HA.out.keep (by go_grown)) (HS2.out.keep (by go_grown))).mono ?_
                rintro e w17 ⟨rfl, hb⟩
                have hX : Below w16.heap.size w16 w17 := nextX (by go_grown) hb
                replace HU := Lib.hid (HU.out.keep hX)
                replace HG := Lib.hid (HG.out.keep hX)
                replace ka0 := cellB hX ka0
                replace zka0 := Nat.lt_of_lt_of_le zka0 hX.size
                replace ka1 := cellB hX ka1
                replace kb0 := cellB hX kb0
                replace zkb0 := Nat.lt_of_lt_of_le zkb0 hX.size
                replace kb1 := cellB hX kb1
                replace HI2 := Lib.hid (HI2.out.keep hX)
                replace HS2 := Lib.hid (HS2.out.keep hX)
                replace HA := Lib.hid (HA.out.keep hX)
                replace hC := nextW hC hX
                clear hb hX
                go_wp2_with fail
                go_meet
                first | exact Below.refl _ _ | exact nextX hC (by go_grown) | go_grown
        case rest => as_aux_lemma =>
          have hX := hcut
          obtain ⟨w18, hwc⟩ : ∃ X : World, X = wc := ⟨_, rfl⟩
          subst hwc
          replace HU := Lib.hid (HU.out.keep hX)
          replace HG := Lib.hid (HG.out.keep hX)
          replace ka0 := cellB hX ka0
          replace zka0 := Nat.lt_of_lt_of_le zka0 hX.size
          replace ka1 := cellB hX ka1
          replace kb0 := cellB hX kb0
          replace zkb0 := Nat.lt_of_lt_of_le zkb0 hX.size
          replace kb1 := cellB hX kb1
          replace HI2 := Lib.hid (HI2.out.keep hX)
          replace HS2 := Lib.hid (HS2.out.keep hX)
          replace hB := nextW hB hX
          clear hX hcut
          clear hsl2 hsm2 ka0 ka1 kb0 kb1 zka0 zkb0
          clear HG HI2 HS2 HCl
          go_wp2_with fail
          refine (drawMiddle_is _ cs _ (HU.out.keep (by go_grown)) HCs.out).mono ?_
          rintro e w19 ⟨r4, r5, fa, ga, rfl, hr, hr2, hal, hb⟩
          have hX : Below w18.heap.size w18 w19 := nextX (by go_grown) hb
          replace HU := Lib.hid (HU.out.keep hX)
          replace hB := nextW hB hX
          clear hb hX
          have HA0 := Lib.hid hr.read
          have HB0 := Lib.hid hr2.read
          clear hr hr2
          obtain ⟨⟨mm, t3⟩, hHM⟩ : ∃ r, midMapQ fa ga = r := ⟨_, rfl⟩
          have HM := Lib.hid hHM
          clear hHM
          have hmm2 := midMapQ_len HM.out
          go_wp2_with fail
          refine (iMiddleMap_is fa ga _ _ mm t3 HM.out _ (HA0.out.keep (by go_grown)) (HB0.out.keep (by go_grown)) (by omega) (by omega)).mono ?_
          rintro e w20 ⟨vHI3, rfl, hi, hb⟩
          have hX : Below w19.heap.size w19 w20 := nextX (by go_grown) hb
          replace HU := Lib.hid (HU.out.keep hX)
          replace HA0 := Lib.hid (HA0.out.keep hX)
          replace HB0 := Lib.hid (HB0.out.keep hX)
          replace hB := nextW hB hX
          clear hb hX
          have HI3 := Lib.hid (hi.read)
          clear hi
          go_wp2_with fail
          refine (sMiddleMap_is fa ga _ _ mm t3 HM.out _ (HA0.out.keep (by go_grown)) (HB0.out.keep (by go_grown)) (by omega) (by omega)).mono ?_
          rintro e w21 ⟨vHS3, rfl, hi, hb⟩
          have hX : Below w20.heap.size w20 w21 := nextX (by go_grown) hb
          replace HU := Lib.hid (HU.out.keep hX)
          replace HA0 := Lib.hid (HA0.out.keep hX)
          replace HB0 := Lib.hid (HB0.out.keep hX)
          replace HI3 := Lib.hid (HI3.out.keep hX)
          replace hB := nextW hB hX
          clear hb hX
          have HS3 := Lib.hid (hi.read)
          clear hi
          go_upto_region 30 with fail
          go_cut [194] (fun c wx => c = .bool false ∧ Below w21.heap.size w21 wx)
          case first => as_aux_lemma =>
            go_wp2_with fail
            refine (pSame_same mm _ _ _ (HI3.out.keep (by go_grown)) (HS3.out.keep (by go_grown))).mono ?_
            rintro e w22 ⟨rfl, hb⟩
            have hX : Below w21.heap.size w21 w22 := nextX (by go_grown) hb
            replace HU := Lib.hid (HU.out.keep hX)
            replace HA0 := Lib.hid (HA0.out.keep hX)
            replace HB0 := Lib.hid (HB0.out.keep hX)
            replace HI3 := Lib.hid (HI3.out.keep hX)
            replace HS3 := Lib.hid (HS3.out.keep hX)
            have hC : Below w21.heap.size w21 w22 := hX
            clear hb hX
            go_wp2_with fail
            go_meet
            exact ⟨by first | rfl | (simp; done), by first | exact Below.refl _ _ | exact nextX hC (by go_grown) | go_grown⟩
          case rest => as_aux_lemma =>
            obtain ⟨rfl, hX⟩ := hcut
            obtain ⟨w23, hwc⟩ : ∃ X : World, X = wc := ⟨_, rfl⟩
            subst hwc
            replace HU := Lib.hid (HU.out.keep hX)
            replace HA0 := Lib.hid (HA0.out.keep hX)
            replace HB0 := Lib.hid (HB0.out.keep hX)
            replace HI3 := Lib.hid (HI3.out.keep hX)
            replace HS3 := Lib.hid (HS3.out.keep hX)
            replace hB := nextW hB hX
            clear hX
            go_upto_if 195 with fail
            go_cut [] (fun wx => Below w23.heap.size w23 wx)
            case first => as_aux_lemma =>
              rcases t3 with _ | _
              · go_wp2_with fail
                go_meet
                first | exact Below.refl _ _ | go_grown
              · go_wp2_with fail
                refine (iMiddleMap_is ga fa _ _ mm true (middle_comm.trans HM.out) _ (HB0.out.keep (by go_grown)) (HA0.out.keep (by go_grown)) (by omega) (by omega)).mono ?_
                rintro e w24 ⟨v9, rfl, hi, hb⟩
                have hX : Below w23.heap.size w23 w24 := nextX (by go_grown) hb
                replace HU := Lib.hid (HU.out.keep hX)
                replace HA0 := Lib.hid (HA0.out.keep hX)
                replace HB0 := Lib.hid (HB0.out.keep hX)
                replace HI3 := Lib.hid (HI3.out.keep hX)
                replace HS3 := Lib.hid (HS3.out.keep hX)
                have hC : Below w23.heap.size w23 w24 := hX
                clear hb hX
                have HN3 := Lib.hid (hi.read)
                clear hi
                go_wp2_with fail
                refine (pSame_same mm _ _ _ (HN3.out.keep (by go_grown)) (HS3.out.keep (by go_grown))).mono ?_
                rintro e w25 ⟨rfl, hb⟩
                have hX : Below w24.heap.size w24 w25 := nextX (by go_grown) hb
                replace HU := Lib.hid (HU.out.keep hX)
                replace HA0 := Lib.hid (HA0.out.keep hX)
                replace HB0 := Lib.hid (HB0.out.keep hX)
                replace HI3 := Lib.hid (HI3.out.keep hX)
                replace HS3 := Lib.hid (HS3.out.keep hX)
                replace HN3 := Lib.hid (HN3.out.keep hX)
                replace hC := nextW hC hX
                clear hb hX
                go_wp2_with fail
                go_meet
                first | exact Below.refl _ _ | exact nextX hC (by go_grown) | go_grown
            case rest => as_aux_lemma =>
              have hX := hcut
              obtain ⟨w26, hwc⟩ : ∃ X : World, X = wc := ⟨_, rfl⟩
              subst hwc
              replace HU := Lib.hid (HU.out.keep hX)
              replace HA0 := Lib.hid (HA0.out.keep hX)
              replace HB0 := Lib.hid (HB0.out.keep hX)
              replace HI3 := Lib.hid (HI3.out.keep hX)
              replace HS3 := Lib.hid (HS3.out.keep hX)
              replace hB := nextW hB hX
              clear hX hcut
              clear HA0 HB0 HI3 HS3 HM
              go_wp2_with fail
              refine (drawBelow_is _ cs _ (HU.out.keep (by go_grown)) HCs.out).mono ?_
              rintro e w27 ⟨r6, r7, us, vs, rfl, hr, hr2, hul, hb⟩
              have hX : Below w26.heap.size w26 w27 := nextX (by go_grown) hb
              replace HU := Lib.hid (HU.out.keep hX)
              replace hB := nextW hB hX
              clear hb hX
              have HU0 := Lib.hid hr.read
              have HV0 := Lib.hid hr2.read
              clear hr hr2
              obtain ⟨⟨i, t4⟩, hHBl⟩ : ∃ r, belowQ us vs = r := ⟨_, rfl⟩
              have HBl := Lib.hid hHBl
              clear hHBl
              go_wp2_with fail
              refine (iIsBelow_is us vs _ _ i t4 HBl.out _ (HU0.out.keep (by go_grown)) (HV0.out.keep (by go_grown)) (by omega) (by omega)).mono ?_
              rintro e w28 ⟨rfl, hb⟩
              have hX : Below w27.heap.size w27 w28 := nextX (by go_grown) hb
              replace HU := Lib.hid (HU.out.keep hX)
              replace HU0 := Lib.hid (HU0.out.keep hX)
              replace HV0 := Lib.hid (HV0.out.keep hX)
              replace hB := nextW hB hX
              clear hb hX
              go_wp2_with fail
              refine (sIsBelow_is us vs _ _ i t4 HBl.out _ (HU0.out.keep (by go_grown)) (HV0.out.keep (by go_grown)) (by omega) (by omega)).mono ?_
              rintro e w29 ⟨rfl, hb⟩
              have hX : Below w28.heap.size w28 w29 := nextX (by go_grown) hb
              replace HU := Lib.hid (HU.out.keep hX)
              replace HU0 := Lib.hid (HU0.out.keep hX)
              replace HV0 := Lib.hid (HV0.out.keep hX)
              replace hB := nextW hB hX
              clear hb hX
              go_upto_region 39 with fail
              go_cut [234] (fun c wx => c = .bool false ∧ Below w29.heap.size w29 wx)
              case first => as_aux_lemma =>
                go_wp2_with fail
                go_meet
                exact ⟨by first | rfl | (simp; done), by first | exact Below.refl _ _ | go_grown⟩
              case rest => as_aux_lemma =>
                obtain ⟨rfl, hX⟩ := hcut
                obtain ⟨w30, hwc⟩ : ∃ X : World, X = wc := ⟨_, rfl⟩
                subst hwc
                replace HU := Lib.hid (HU.out.keep hX)
                replace HU0 := Lib.hid (HU0.out.keep hX)
                replace HV0 := Lib.hid (HV0.out.keep hX)
                replace hB := nextW hB hX
                clear hX
                go_upto_if 235 with fail
                go_cut [] (fun wx => Below w30.heap.size w30 wx)
                case first => as_aux_lemma =>
                  rcases t4 with _ | _
                  · go_wp2_with fail
                    go_meet
                    first | exact Below.refl _ _ | go_grown
                  · obtain ⟨k, hk1, hk2⟩ := below_law HBl.out
                    have HK1 := Lib.hid hk1
                    have HK2 := Lib.hid hk2
                    clear hk1 hk2
                    rcases i with _ | _
                    · rcases k with _ | _
                      · have HK3 : Hid (sameQ us vs = (false, true)) := Lib.hid HK2.out
                        go_wp2_with fail
                        refine (iIsBelow_is vs us _ _ false true HK1.out _ (HV0.out.keep (by go_grown)) (HU0.out.keep (by go_grown)) (by omega) (by omega)).mono ?_
                        rintro e w31 ⟨rfl, hb⟩
                        have hX : Below w30.heap.size w30 w31 := nextX (by go_grown) hb
                        replace HU := Lib.hid (HU.out.keep hX)
                        replace HU0 := Lib.hid (HU0.out.keep hX)
                        replace HV0 := Lib.hid (HV0.out.keep hX)
                        have hC : Below w30.heap.size w30 w31 := hX
                        clear hb hX
                        go_wp2_with fail
                        refine (iAreSameMap_is us vs _ _ false true HK3.out _ (HU0.out.keep (by go_grown)) (HV0.out.keep (by go_grown)) (by omega) (by omega)).mono ?_
                        rintro e w32 ⟨rfl, hb⟩
                        have hX : Below w31.heap.size w31 w32 := nextX (by go_grown) hb
                        replace HU := Lib.hid (HU.out.keep hX)
                        replace HU0 := Lib.hid (HU0.out.keep hX)
                        replace HV0 := Lib.hid (HV0.out.keep hX)
                        replace hC := nextW hC hX
                        clear hb hX
                        go_wp2_with fail
                        go_meet
                        first | exact Below.refl _ _ | exact nextX hC (by go_grown) | go_grown
                      · have HK3 : Hid (sameQ us vs = (false, true)) := Lib.hid HK2.out
                        go_wp2_with fail
                        refine (iIsBelow_is vs us _ _ true true HK1.out _ (HV0.out.keep (by go_grown)) (HU0.out.keep (by go_grown)) (by omega) (by omega)).mono ?_
                        rintro e w31 ⟨rfl, hb⟩
                        have hX : Below w30.heap.size w30 w31 := nextX (by go_grown) hb
                        replace HU := Lib.hid (HU.out.keep hX)
                        replace HU0 := Lib.hid (HU0.out.keep hX)
                        replace HV0 := Lib.hid (HV0.out.keep hX)
                        have hC : Below w30.heap.size w30 w31 := hX
                        clear hb hX
                        go_wp2_with fail
                        refine (iAreSameMap_is us vs _ _ false true HK3.out _ (HU0.out.keep (by go_grown)) (HV0.out.keep (by go_grown)) (by omega) (by omega)).mono ?_
                        rintro e w32 ⟨rfl, hb⟩
                        have hX : Below w31.heap.size w31 w32 := nextX (by go_grown) hb
                        replace HU := Lib.hid (HU.out.keep hX)
                        replace HU0 := Lib.hid (HU0.out.keep hX)
                        replace HV0 := Lib.hid (HV0.out.keep hX)
                        replace hC := nextW hC hX
                        clear hb hX
                        go_wp2_with fail
                        go_meet
                        first | exact Below.refl _ _ | exact nextX hC (by go_grown) | go_grown
                    · rcases k with _ | _
                      · have HK3 : Hid (sameQ us vs = (false, true)) := Lib.hid HK2.out
                        go_wp2_with fail
                        refine (iIsBelow_is vs us _ _ false true HK1.out _ (HV0.out.keep (by go_grown)) (HU0.out.keep (by go_grown)) (by omega) (by omega)).mono ?_
                        rintro e w31 ⟨rfl, hb⟩
                        have hX : Below w30.heap.size w30 w31 := nextX (by go_grown) hb
                        replace HU := Lib.hid (HU.out.keep hX)
                        replace HU0 := Lib.hid (HU0.out.keep hX)
                        replace HV0 := Lib.hid (HV0.out.keep hX)
                        have hC : Below w30.heap.size w30 w31 := hX
                        clear hb hX
                        go_wp2_with fail
                        refine (iAreSameMap_is us vs _ _ false true HK3.out _ (HU0.out.keep (by go_grown)) (HV0.out.keep (by go_grown)) (by omega) (by omega)).mono ?_
                        rintro e w32 ⟨rfl, hb⟩
                        have hX : Below w31.heap.size w31 w32 := nextX (by go_grown) hb
                        replace HU := Lib.hid (HU.out.keep hX)
                        replace HU0 := Lib.hid (HU0.out.keep hX)
                        replace HV0 := Lib.hid (HV0.out.keep hX)
                        replace hC := nextW hC hX
                        clear hb hX
                        go_wp2_with fail
                        go_meet
                        first | exact Below.refl _ _ | exact nextX hC (by go_grown) | go_grown
                      · have HK3 : Hid (sameQ us vs = (true, true)) := Lib.hid HK2.out
                        go_wp2_with fail
                        refine (iIsBelow_is vs us _ _ true true HK1.out _ (HV0.out.keep (by go_grown)) (HU0.out.keep (by go_grown)) (by omega) (by omega)).mono ?_
                        rintro e w31 ⟨rfl, hb⟩
                        have hX : Below w30.heap.size w30 w31 := nextX (by go_grown) hb
                        replace HU := Lib.hid (HU.out.keep hX)
                        replace HU0 := Lib.hid (HU0.out.keep hX)
                        replace HV0 := Lib.hid (HV0.out.keep hX)
                        have hC : Below w30.heap.size w30 w31 := hX
                        clear hb hX
                        go_wp2_with fail
                        refine (iAreSameMap_is us vs _ _ true true HK3.out _ (HU0.out.keep (by go_grown)) (HV0.out.keep (by go_grown)) (by omega) (by omega)).mono ?_
                        rintro e w32 ⟨rfl, hb⟩
                        have hX : Below w31.heap.size w31 w32 := nextX (by go_grown) hb
                        replace HU := Lib.hid (HU.out.keep hX)
                        replace HU0 := Lib.hid (HU0.out.keep hX)
                        replace HV0 := Lib.hid (HV0.out.keep hX)
                        replace hC := nextW hC hX
                        clear hb hX
                        go_wp2_with fail
                        go_meet
                        first | exact Below.refl _ _ | exact nextX hC (by go_grown) | go_grown
                case rest => as_aux_lemma =>
                  have hX := hcut
                  obtain ⟨w33, hwc⟩ : ∃ X : World, X = wc := ⟨_, rfl⟩
                  subst hwc
                  replace HU := Lib.hid (HU.out.keep hX)
                  replace HU0 := Lib.hid (HU0.out.keep hX)
                  replace HV0 := Lib.hid (HV0.out.keep hX)
                  replace hB := nextW hB hX
                  clear hX hcut
                  clear HU0 HV0 HBl
                  go_wp2_with fail
                  refine (drawJoin_is _ cs _ (HU.out.keep (by go_grown)) HCs.out).mono ?_
                  rintro e w34 ⟨r8, r9, js, ks, a, b, rfl, hr, hr2, hjl, hb⟩
                  have hX : Below w33.heap.size w33 w34 := nextX (by go_grown) hb
                  replace HU := Lib.hid (HU.out.keep hX)
                  replace hB := nextW hB hX
                  clear hb hX
                  have HJ1 := Lib.hid hr.read
                  have HJ2 := Lib.hid hr2.read
                  clear hr hr2
                  obtain ⟨⟨j, t5⟩, hHJ⟩ : ∃ r, joinQ js ks (a, b) = r := ⟨_, rfl⟩
                  have HJ := Lib.hid hHJ
                  clear hHJ
                  have hjj := joinQ_len HJ.out
                  go_wp2_with fail
                  refine (iJoinMaps_is js ks _ _ a b j t5 HJ.out _ (HJ1.out.keep (by go_grown)) (HJ2.out.keep (by go_grown)) (by omega) (by omega)).mono ?_
                  rintro e w35 ⟨vHI5, rfl, hi, hb⟩
                  have hX : Below w34.heap.size w34 w35 := nextX (by go_grown) hb
                  replace HU := Lib.hid (HU.out.keep hX)
                  replace HJ1 := Lib.hid (HJ1.out.keep hX)
                  replace HJ2 := Lib.hid (HJ2.out.keep hX)
                  have kt0 : w35.cell? ⟨w34.heap.size, 0, none⟩ = some (.int .i64 a) := cellB hb (by simp [go_sem])
                  have zkt0 := lt_of_cell kt0
                  have kt1 : w35.cell? ⟨w34.heap.size, 1, none⟩ = some (.int .i64 b) := cellB hb (by simp [go_sem])
                  replace hB := nextW hB hX
                  clear hb hX
                  have HI5 := Lib.hid (hi.read)
                  clear hi
                  go_wp2_with fail
                  refine (sJoinMaps_is js ks _ _ a b j t5 HJ.out _ (HJ1.out.keep (by go_grown)) (HJ2.out.keep (by go_grown)) (by omega) (by omega)).mono ?_
                  rintro e w36 ⟨vHS5, rfl, hi, hb⟩
                  have hX : Below w35.heap.size w35 w36 := nextX (by go_grown) hb
                  replace HU := Lib.hid (HU.out.keep hX)
                  replace HJ1 := Lib.hid (HJ1.out.keep hX)
                  replace HJ2 := Lib.hid (HJ2.out.keep hX)
                  replace kt0 := cellB hX kt0
                  replace zkt0 := Nat.lt_of_lt_of_le zkt0 hX.size
                  replace kt1 := cellB hX kt1
                  replace HI5 := Lib.hid (HI5.out.keep hX)
                  replace hB := nextW hB hX
                  clear hb hX
                  have HS5 := Lib.hid (hi.read)
                  clear hi
                  go_upto_region 49 with fail
                  go_cut [290] (fun c wx => c = .bool false ∧ Below w36.heap.size w36 wx)
                  case first => as_aux_lemma =>
                    go_wp2_with fail
                    refine (pSame_same j _ _ _ (HI5.out.keep (by go_grown)) (HS5.out.keep (by go_grown))).mono ?_
                    rintro e w37 ⟨rfl, hb⟩
                    have hX : Below w36.heap.size w36 w37 := nextX (by go_grown) hb
                    replace HU := Lib.hid (HU.out.keep hX)
                    replace HJ1 := Lib.hid (HJ1.out.keep hX)
                    replace HJ2 := Lib.hid (HJ2.out.keep hX)
                    replace kt0 := cellB hX kt0
                    replace zkt0 := Nat.lt_of_lt_of_le zkt0 hX.size
                    replace kt1 := cellB hX kt1
                    replace HI5 := Lib.hid (HI5.out.keep hX)
                    replace HS5 := Lib.hid (HS5.out.keep hX)
                    have hC : Below w36.heap.size w36 w37 := hX
                    clear hb hX
                    go_wp2_with fail
                    go_meet
                    exact ⟨by first | rfl | (simp; done), by first | exact Below.refl _ _ | exact nextX hC (by go_grown) | go_grown⟩
                  case rest => as_aux_lemma =>
                    obtain ⟨rfl, hX⟩ := hcut
                    obtain ⟨w38, hwc⟩ : ∃ X : World, X = wc := ⟨_, rfl⟩
                    subst hwc
                    replace HU := Lib.hid (HU.out.keep hX)
                    replace HJ1 := Lib.hid (HJ1.out.keep hX)
                    replace HJ2 := Lib.hid (HJ2.out.keep hX)
                    replace kt0 := cellB hX kt0
                    replace zkt0 := Nat.lt_of_lt_of_le zkt0 hX.size
                    replace kt1 := cellB hX kt1
                    replace HI5 := Lib.hid (HI5.out.keep hX)
                    replace HS5 := Lib.hid (HS5.out.keep hX)
                    replace hB := nextW hB hX
                    clear hX
                    rcases t5 with _ | _
                    · go_wp2_with fail
                      go_ret
                      exact ⟨by first | rfl | (simp; done), by first | exact hB | exact nextX hB (by go_grown)⟩
                    · obtain ⟨z1, z2, hz1, hz2⟩ := join_value HJ.out
                      have HZ1 := Lib.hid hz1
                      have HZ2 := Lib.hid hz2
                      clear hz1 hz2
                      go_wp2_with fail
                      refine (iValueAt_is j _ a b z1 z2 true _ (HI5.out.keep (by go_grown)) hjj HZ1.out).mono ?_
                      rintro e w39 ⟨rfl, hb⟩
                      have hX : Below w38.heap.size w38 w39 := nextX (by go_grown) hb
                      replace HU := Lib.hid (HU.out.keep hX)
                      replace HJ1 := Lib.hid (HJ1.out.keep hX)
                      replace HJ2 := Lib.hid (HJ2.out.keep hX)
                      replace kt0 := cellB hX kt0
                      replace zkt0 := Nat.lt_of_lt_of_le zkt0 hX.size
                      replace kt1 := cellB hX kt1
                      replace HI5 := Lib.hid (HI5.out.keep hX)
                      replace HS5 := Lib.hid (HS5.out.keep hX)
                      replace hB := nextW hB hX
                      clear hb hX
                      go_wp2_with fail
                      refine (sValueAt_is js _ a b z1 z2 true _ (HJ1.out.keep (by go_grown)) (by omega) HZ2.out).mono ?_
                      rintro e w40 ⟨rfl, hb⟩
                      have hX : Below w39.heap.size w39 w40 := nextX (by go_grown) hb
                      replace HU := Lib.hid (HU.out.keep hX)
                      replace HJ1 := Lib.hid (HJ1.out.keep hX)
                      replace HJ2 := Lib.hid (HJ2.out.keep hX)
                      replace kt0 := cellB hX kt0
                      replace zkt0 := Nat.lt_of_lt_of_le zkt0 hX.size
                      replace kt1 := cellB hX kt1
                      replace HI5 := Lib.hid (HI5.out.keep hX)
                      replace HS5 := Lib.hid (HS5.out.keep hX)
                      have ku0 : w40.cell? ⟨w39.heap.size, 0, none⟩ = some (.int .i64 z1) := cellB hb (by simp [go_sem])
                      have zku0 := lt_of_cell ku0
                      have ku1 : w40.cell? ⟨w39.heap.size, 1, none⟩ = some (.int .i64 z2) := cellB hb (by simp [go_sem])
                      replace hB := nextW hB hX
                      clear hb hX
                      go_wp2_with fail
                      go_ret
                      exact ⟨by first | rfl | (simp; done), by first | exact hB | exact nextX hB (by go_grown)⟩

set_option maxRecDepth 100000 in
theorem lifted (os : Os) (started : os.Started) (H : Type) (enc : TypeId × Value → H) :
    ReturnsInHanded {} Tryz.checked os 4 .any (Rows.fnMixedMapsSpec.pre6 enc Tryz.prog Tryz.f4 Rows.fnMixedMapsRow.domain false) (Rows.fnMixedMapsSpec.post enc Tryz.prog Tryz.f4 false true false false) := by
  refine returnsInHanded_of_change (C := Tryz.checked) Tryz.own started (by kernel_rfl) Tryz.func4
    (ChangeSpec.witness6 (enc := enc) (C := Tryz.checked) false ⟨#[], #[.slice none 0 0, .slice none 0 0], []⟩ 8 (by kernel_rfl) (by kernel_rfl) (by kernel_rfl) (by kernel_rfl)) ?_
  intro W base args ds gs before hval0 hW hcnd _
  have hval : ∀ (j : Nat) t v, Tryz.f4.params[j]? = some t → args[j]? = some v → Value.okWide Tryz.prog W .any base t v := hval0
  have hW' := hW
  obtain ⟨p, q, hA0, hV, rfl, hfz, hnd⟩ := hW
  have hA : DataW.TrodAll enc Tryz.prog W 0 (fun _ => true) true Tryz.f4.params.toList args.toList ds p := hA0
  rw [Tryz.params4] at hA hval
  obtain ⟨v0, v1, d0, d1, p0, p1, rfl, rfl, rfl, h0, h1⟩ := trodAll_two hA
  obtain ⟨bs0, hr0, hb0⟩ := open_code (hval 0 22 v0 rfl rfl) h0
  obtain ⟨bs1, hr1, hb1⟩ := open_code (hval 1 22 v1 rfl rfl) h1
  refine (walk _ _ bs0 bs1 W hr0 hr1 hb0 hb1).mono fun e W' ⟨he, hb⟩ => ?_
  subst he
  exact ⟨_, rfl, law_close Tryz.laidOut (by kernel_rfl) (by kernel_rfl) Tryz.underlying4 rfl hW' (fun h => by rfl) hb⟩

theorem proved : Rows.FnMixedMapsSaid :=
  OpenClaim.holds_of_wide 4 Tryz.f4 rfl rfl rfl rfl rfl rfl rfl ⟨rfl, rfl, rfl, rfl, rfl⟩ rfl rfl rfl rfl rfl (by kernel_rfl) Tryz.func4 (by kernel_rfl)
    (of_decide_eq_true (by kernel_rfl)) (by unfold Func.isWrapper; first | (rw [if_pos (by decide +kernel)]; kernel_rfl) | (rw [if_neg (by decide +kernel)]; exact ⟨rfl, rfl⟩))
    (fun os started H enc _ => lifted os started H enc)

end Go.Proofs.YtkeajfgcjmhmiaaGreat.lawFnMixedMaps
