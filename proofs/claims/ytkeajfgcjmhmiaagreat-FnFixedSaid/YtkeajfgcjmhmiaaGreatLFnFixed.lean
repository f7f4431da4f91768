/- Proved: for every drawn maps, fixed points have their own value, a map has one, and the points before a value have it; the arguments read afterwards as they did. No condition. -/
import Derived.Test.YtkeajfgcjmhmiaaGreatCode
import Derived.Test.YtkeajfgcjmhmiaaGreatQr
import Derived.Test.YtkeajfgcjmhmiaaGreatDrF
import Derived.Test.YtkeajfgcjmhmiaaGreatFixP
import Derived.Test.YtkeajfgcjmhmiaaGreatIsM
import Derived.Test.YtkeajfgcjmhmiaaGreatFixC
import Derived.Test.YtkeajfgcjmhmiaaGreatBefD
import Derived.Test.YtkeajfgcjmhmiaaGreatLaws
namespace Go.Proofs.YtkeajfgcjmhmiaaGreat.lawFnFixed
open Go.Proofs.YtkeajfgcjmhmiaaGreat
open Go.ChangeShapes Go.WideShapes Go.ChangeAt Go.RowKit Go.Joins

theorem qUp_val {n1 d1 n2 d2 r : Int} (s1 : Sm n1 ∧ Sm d1) (s2 : Sm n2 ∧ Sm d2) (h : cmpQ n1 d1 n2 d2 = r) (w : World) :
    Calls Tryz.prog 59 #[.agg #[.int .i64 n1, .int .i64 d1], .agg #[.int .i64 n2, .int .i64 d2]] w fun e w' => e = .returned (.int .i64 r) ∧ Below w.heap.size w w' := by
  subst h; exact qUp_is n1 d1 n2 d2 s1 s2 w
theorem up_cmp {l : List Q} (ho : OkL l) (hu : UpQ l) : ∀ (k : Nat) (x y : Q), l[k]? = some x → l[k + 1]? = some y → cmpQ x.1 x.2 y.1 y.2 = -1 := by
  intro k x y hx hy
  have h1 := (okQ_bd (ho x (List.mem_of_getElem? hx))).1
  have h2 := (okQ_bd (ho y (List.mem_of_getElem? hy))).1
  have hlt : toR x < toR y := by
    unfold UpQ at hu
    rw [List.pairwise_iff_getElem] at hu
    obtain ⟨i1, rfl⟩ := List.getElem?_eq_some_iff.1 hx
    obtain ⟨i2, rfl⟩ := List.getElem?_eq_some_iff.1 hy
    exact hu k (k + 1) i1 i2 (by omega)
  have := (cmpQ_lt h1 h2).2 hlt
  rcases cmpQ_abs x.1 x.2 y.1 y.2 with h | h | h <;> omega
theorem sm_of {l : List Q} (ho : OkL l) (k : Nat) (x : Q) (hx : l[k]? = some x) : Sm x.1 ∧ Sm x.2 := Sm.of_ok (ho x (List.mem_of_getElem? hx))
structure FixLaw (ps : List Pt) (l : List Q) (t : Bool) : Prop where
  flag : okMap ps = t
  pos : t = true → 0 < l.length
  own : ∀ (k : Nat) (x : Q) (a b : Int), l[k]? = some x → vaQ ps x = (a, b, true) → (a, b) = x
  sm : ∀ (k : Nat) (x : Q), l[k]? = some x → Sm x.1 ∧ Sm x.2
  up : ∀ (k : Nat) (x y : Q), l[k]? = some x → l[k + 1]? = some y → cmpQ x.1 x.2 y.1 y.2 = -1
theorem fix_law {ps : List Pt} {l : List Q} {t : Bool} (h : fixedQ ps = (l, t)) : FixLaw ps l t := by
  unfold fixedQ at h
  split at h
  · rename_i hm
    obtain ⟨rfl, rfl⟩ := Prod.mk.inj h
    have ho : OkL (fixQ ps) := fun x hx => fixPc_ok hm x ((setQ_mem _ x).1 hx)
    exact ⟨hm, fun _ => List.length_pos_iff.2 (fixed_ne hm), fun k x a b hx hv => fixed_va hm (List.mem_of_getElem? hx) hv, sm_of ho, up_cmp ho (fixQ_up hm)⟩
  · rename_i hm
    obtain ⟨rfl, rfl⟩ := Prod.mk.inj h
    exact ⟨by simpa using hm, by simp, by simp, by simp, by simp⟩
structure BefLaw (ps : List Pt) (y : Q) (l : List Q) : Prop where
  own : ∀ (k : Nat) (x : Q), l[k]? = some x → vaQ ps x = (y.1, y.2, true)
  sm : ∀ (k : Nat) (x : Q), l[k]? = some x → Sm x.1 ∧ Sm x.2
  up : ∀ (k : Nat) (x y : Q), l[k]? = some x → l[k + 1]? = some y → cmpQ x.1 x.2 y.1 y.2 = -1
theorem bef_law {ps : List Pt} {y : Q} {l : List Q} {t : Bool} (h : befOf ps y = (l, t)) : BefLaw ps y l := by
  have no : BefLaw ps y [] := ⟨by simp, by simp, by simp⟩
  unfold befOf at h
  split at h
  · rename_i hm
    unfold befRes at h
    split at h
    · rename_i hb
      obtain ⟨rfl, -⟩ := Prod.mk.inj h
      have ho : OkL (befQ y ps) := fun x hx => befPc_ok hm.1 hb x ((setQ_mem _ x).1 hx)
      exact ⟨fun k x hx => before_va hm.1 hm.2 hb (List.mem_of_getElem? hx), sm_of ho, up_cmp ho (befQ_up hm.1 hb)⟩
    · obtain ⟨rfl, -⟩ := Prod.mk.inj h; exact no
  · obtain ⟨rfl, -⟩ := Prod.mk.inj h; exact no

set_option maxRecDepth 100000 in
set_option maxHeartbeats 1600000 in
theorem walk (v u : Value) (bs cs : List Int) (w : World) (hv : RdN .u8 w v bs) (hu : RdN .u8 w u cs) (hbs : ∀ x ∈ bs, 0 ≤ x ∧ x ≤ 255) (hcs : ∀ x ∈ cs, 0 ≤ x ∧ x ≤ 255) :
    Calls Tryz.prog 6 #[v, u] w fun e w' => e = .returned (.bool true) ∧ Below w.heap.size w w' := by
  have HV := Lib.hid hv
  have HU := Lib.hid hu
  have HBs := Lib.hid hbs
  have HCs := Lib.hid hcs
  obtain ⟨A, cv, rfl, hl1, hm1, -⟩ := hv
  obtain ⟨A2, cu, rfl, hl2, hm2, -⟩ := hu
  unfold maxLen at hm1 hm2
  clear hbs hcs
  obtain ⟨nlen, vlen⟩ : ∃ n, IntKind.i64.wrap ((bs.length : Int) + (cs.length : Int)) = n := ⟨_, rfl⟩
  by_cases hbig : (1048576 : Int) < nlen
  · have hbig' : decide ((1048576 : Int) < nlen) = true := decide_eq_true hbig
    go_enter Tryz.func6, Tryz.ntmps6
    go_wp2_with fail
    go_ret
    exact ⟨rfl, by go_grown⟩
  have hbig' : decide ((1048576 : Int) < nlen) = false := decide_eq_false hbig
  go_enter Tryz.func6, Tryz.ntmps6
  go_wp2_with fail
  refine (drawFixed_is _ bs _ (HV.out.keep (by go_grown)) HBs.out).mono ?_
  rintro e w1 ⟨r, ps, rfl, hr, hpl, hb⟩
  have hX : Below w.heap.size w w1 := nextX (by go_grown) hb
  replace HV := Lib.hid (HV.out.keep hX)
  replace HU := Lib.hid (HU.out.keep hX)
  have hB : Below w.heap.size w w1 := hX
  clear hb hX
  have HR := Lib.hid hr.read
  clear hr
  obtain ⟨⟨l, t⟩, hHL⟩ : ∃ r, fixedQ ps = r := ⟨_, rfl⟩
  have HL := Lib.hid hHL
  clear hHL
  go_wp2_with fail
  refine (iFixedPoints_is ps _ l t HL.out _ (HR.out.keep (by go_grown)) (by omega)).mono ?_
  rintro e w2 ⟨iv, rfl, hi, hb⟩
  have hX : Below w1.heap.size w1 w2 := nextX (by go_grown) hb
  replace HV := Lib.hid (HV.out.keep hX)
  replace HU := Lib.hid (HU.out.keep hX)
  replace HR := Lib.hid (HR.out.keep hX)
  replace hB := nextW hB hX
  clear hb hX
  have HI := Lib.hid (hi.read)
  clear hi
  go_wp2_with fail
  refine (sFixedPoints_is ps _ l t HL.out _ (HR.out.keep (by go_grown)) (by omega)).mono ?_
  rintro e w3 ⟨sv, rfl, hi, hb⟩
  have hX : Below w2.heap.size w2 w3 := nextX (by go_grown) hb
  replace HV := Lib.hid (HV.out.keep hX)
  replace HU := Lib.hid (HU.out.keep hX)
  replace HR := Lib.hid (HR.out.keep hX)
  replace HI := Lib.hid (HI.out.keep hX)
  replace hB := nextW hB hX
  clear hb hX
  have HS := Lib.hid (hi.read)
  clear hi
  go_wp2_with fail
  refine (drawBefore_is _ cs _ (HU.out.keep (by go_grown)) HCs.out).mono ?_
  rintro e w4 ⟨r2, ps2, y1, y2, rfl, hr, hpl2, hb⟩
  have hX : Below w3.heap.size w3 w4 := nextX (by go_grown) hb
  replace HV := Lib.hid (HV.out.keep hX)
  replace HU := Lib.hid (HU.out.keep hX)
  replace HR := Lib.hid (HR.out.keep hX)
  replace HI := Lib.hid (HI.out.keep hX)
  replace HS := Lib.hid (HS.out.keep hX)
  replace hB := nextW hB hX
  clear hb hX
  have HG := Lib.hid hr.read
  clear hr
  obtain ⟨⟨l2, t2⟩, hHM⟩ : ∃ r, befOf ps2 (y1, y2) = r := ⟨_, rfl⟩
  have HM := Lib.hid hHM
  clear hHM
  go_wp2_with fail
  refine (iPointsBefore_is ps2 _ y1 y2 l2 t2 HM.out _ (HG.out.keep (by go_grown)) (by omega)).mono ?_
  rintro e w5 ⟨iv2, rfl, hi, hb⟩
  have hX : Below w4.heap.size w4 w5 := nextX (by go_grown) hb
  replace HV := Lib.hid (HV.out.keep hX)
  replace HU := Lib.hid (HU.out.keep hX)
  replace HR := Lib.hid (HR.out.keep hX)
  replace HI := Lib.hid (HI.out.keep hX)
  replace HS := Lib.hid (HS.out.keep hX)
  replace HG := Lib.hid (HG.out.keep hX)
  have ky0 : w5.cell? ⟨w4.heap.size, 0, none⟩ = some (.int .i64 y1) := cellB hb (by simp [go_sem])
  have zky0 := lt_of_cell ky0
  have ky1 : w5.cell? ⟨w4.heap.size, 1, none⟩ = some (.int .i64 y2) := cellB hb (by simp [go_sem])
  replace hB := nextW hB hX
  clear hb hX
  have HI2 := Lib.hid (hi.read)
  clear hi
  go_wp2_with fail
  refine (sPointsBefore_is ps2 _ y1 y2 l2 t2 HM.out _ (HG.out.keep (by go_grown)) (by omega)).mono ?_
  rintro e w6 ⟨sv2, rfl, hi, hb⟩
  have hX : Below w5.heap.size w5 w6 := nextX (by go_grown) hb
  replace HV := Lib.hid (HV.out.keep hX)
  replace HU := Lib.hid (HU.out.keep hX)
  replace HR := Lib.hid (HR.out.keep hX)
  replace HI := Lib.hid (HI.out.keep hX)
  replace HS := Lib.hid (HS.out.keep hX)
  replace HG := Lib.hid (HG.out.keep hX)
  replace ky0 := cellB hX ky0
  replace zky0 := Nat.lt_of_lt_of_le zky0 hX.size
  replace ky1 := cellB hX ky1
  replace HI2 := Lib.hid (HI2.out.keep hX)
  replace hB := nextW hB hX
  clear hb hX
  have HS2 := Lib.hid (hi.read)
  clear hi
  have HT := Lib.hid (fix_law HL.out)
  have HT2 := Lib.hid (bef_law HM.out)
  obtain ⟨SA, sc, hsv, hsl, hsm, -⟩ := HS.out
  subst hsv
  obtain ⟨SA2, sc2, hsv, hsl2, hsm2, -⟩ := HS2.out
  subst hsv
  unfold maxLen at hsm hsm2
  go_upto_region 9 with fail
  go_cut [92] (fun c wx => c = .bool false ∧ Below w6.heap.size w6 wx)
  case first => as_aux_lemma =>
    rcases t with _ | _
    · rcases t2 with _ | _
      · go_wp2_with fail
        refine (qRats_same l _ _ _ (HI.out.keep (by go_grown)) (HS.out.keep (by go_grown))).mono ?_
        rintro e w7 ⟨rfl, hb⟩
        have hX : Below w6.heap.size w6 w7 := nextX (by go_grown) hb
        replace HV := Lib.hid (HV.out.keep hX)
        replace HU := Lib.hid (HU.out.keep hX)
        replace HR := Lib.hid (HR.out.keep hX)
        replace HI := Lib.hid (HI.out.keep hX)
        replace HS := Lib.hid (HS.out.keep hX)
        replace HG := Lib.hid (HG.out.keep hX)
        replace ky0 := cellB hX ky0
        replace zky0 := Nat.lt_of_lt_of_le zky0 hX.size
        replace ky1 := cellB hX ky1
        replace HI2 := Lib.hid (HI2.out.keep hX)
        replace HS2 := Lib.hid (HS2.out.keep hX)
        have hC : Below w6.heap.size w6 w7 := hX
        clear hb hX
        go_wp2_with fail
        refine (qRats_same l2 _ _ _ (HI2.out.keep (by go_grown)) (HS2.out.keep (by go_grown))).mono ?_
        rintro e w8 ⟨rfl, hb⟩
        have hX : Below w7.heap.size w7 w8 := nextX (by go_grown) hb
        replace HV := Lib.hid (HV.out.keep hX)
        replace HU := Lib.hid (HU.out.keep hX)
        replace HR := Lib.hid (HR.out.keep hX)
        replace HI := Lib.hid (HI.out.keep hX)
        replace HS := Lib.hid (HS.out.keep hX)
        replace HG := Lib.hid (HG.out.keep hX)
        replace ky0 := cellB hX ky0
        replace zky0 := Nat.lt_of_lt_of_le zky0 hX.size
        replace ky1 := cellB hX ky1
        replace HI2 := Lib.hid (HI2.out.keep hX)
        replace HS2 := Lib.hid (HS2.out.keep hX)
        replace hC := nextW hC hX
        clear hb hX
        go_wp2_with fail
        refine (implIsMap_is ps _ _ _ (HR.out.keep (by go_grown)) (by omega) HT.out.flag).mono ?_
        rintro e w9 ⟨rfl, hb⟩
        have hX : Below w8.heap.size w8 w9 := nextX (by go_grown) hb
        replace HV := Lib.hid (HV.out.keep hX)
        replace HU := Lib.hid (HU.out.keep hX)
        replace HR := Lib.hid (HR.out.keep hX)
        replace HI := Lib.hid (HI.out.keep hX)
        replace HS := Lib.hid (HS.out.keep hX)
        replace HG := Lib.hid (HG.out.keep hX)
        replace ky0 := cellB hX ky0
        replace zky0 := Nat.lt_of_lt_of_le zky0 hX.size
        replace ky1 := cellB hX ky1
        replace HI2 := Lib.hid (HI2.out.keep hX)
        replace HS2 := Lib.hid (HS2.out.keep hX)
        replace hC := nextW hC hX
        clear hb hX
        go_wp2_with fail
        go_meet
        exact ⟨by first | rfl | (simp; done), by first | exact Below.refl _ _ | exact nextX hC (by go_grown) | go_grown⟩
      · go_wp2_with fail
        refine (qRats_same l _ _ _ (HI.out.keep (by go_grown)) (HS.out.keep (by go_grown))).mono ?_
        rintro e w7 ⟨rfl, hb⟩
        have hX : Below w6.heap.size w6 w7 := nextX (by go_grown) hb
        replace HV := Lib.hid (HV.out.keep hX)
        replace HU := Lib.hid (HU.out.keep hX)
        replace HR := Lib.hid (HR.out.keep hX)
        replace HI := Lib.hid (HI.out.keep hX)
        replace HS := Lib.hid (HS.out.keep hX)
        replace HG := Lib.hid (HG.out.keep hX)
        replace ky0 := cellB hX ky0
        replace zky0 := Nat.lt_of_lt_of_le zky0 hX.size
        replace ky1 := cellB hX ky1
        replace HI2 := Lib.hid (HI2.out.keep hX)
        replace HS2 := Lib.hid (HS2.out.keep hX)
        have hC : Below w6.heap.size w6 w7 := hX
        clear hb hX
        go_wp2_with fail
        refine (qRats_same l2 _ _ _ (HI2.out.keep (by go_grown)) (HS2.out.keep (by go_grown))).mono ?_
        rintro e w8 ⟨rfl, hb⟩
        have hX : Below w7.heap.size w7 w8 := nextX (by go_grown) hb
        replace HV := Lib.hid (HV.out.keep hX)
        replace HU := Lib.hid (HU.out.keep hX)
        replace HR := Lib.hid (HR.out.keep hX)
        replace HI := Lib.hid (HI.out.keep hX)
        replace HS := Lib.hid (HS.out.keep hX)
        replace HG := Lib.hid (HG.out.keep hX)
        replace ky0 := cellB hX ky0
        replace zky0 := Nat.lt_of_lt_of_le zky0 hX.size
        replace ky1 := cellB hX ky1
        replace HI2 := Lib.hid (HI2.out.keep hX)
        replace HS2 := Lib.hid (HS2.out.keep hX)
        replace hC := nextW hC hX
        clear hb hX
        go_wp2_with fail
        refine (implIsMap_is ps _ _ _ (HR.out.keep (by go_grown)) (by omega) HT.out.flag).mono ?_
        rintro e w9 ⟨rfl, hb⟩
        have hX : Below w8.heap.size w8 w9 := nextX (by go_grown) hb
        replace HV := Lib.hid (HV.out.keep hX)
        replace HU := Lib.hid (HU.out.keep hX)
        replace HR := Lib.hid (HR.out.keep hX)
        replace HI := Lib.hid (HI.out.keep hX)
        replace HS := Lib.hid (HS.out.keep hX)
        replace HG := Lib.hid (HG.out.keep hX)
        replace ky0 := cellB hX ky0
        replace zky0 := Nat.lt_of_lt_of_le zky0 hX.size
        replace ky1 := cellB hX ky1
        replace HI2 := Lib.hid (HI2.out.keep hX)
        replace HS2 := Lib.hid (HS2.out.keep hX)
        replace hC := nextW hC hX
        clear hb hX
        go_wp2_with fail
        go_meet
        exact ⟨by first | rfl | (simp; done), by first | exact Below.refl _ _ | exact nextX hC (by go_grown) | go_grown⟩
    · have hl0 : ¬ ((l.length : Nat) : Int) = 0 := by have := HT.out.pos rfl; omega
      have hl0' : (((l.length : Nat) : Int) == 0) = false := by simpa using hl0
      rcases t2 with _ | _
      · go_wp2_with fail
        refine (qRats_same l _ _ _ (HI.out.keep (by go_grown)) (HS.out.keep (by go_grown))).mono ?_
        rintro e w7 ⟨rfl, hb⟩
        have hX : Below w6.heap.size w6 w7 := nextX (by go_grown) hb
        replace HV := Lib.hid (HV.out.keep hX)
        replace HU := Lib.hid (HU.out.keep hX)
        replace HR := Lib.hid (HR.out.keep hX)
        replace HI := Lib.hid (HI.out.keep hX)
        replace HS := Lib.hid (HS.out.keep hX)
        replace HG := Lib.hid (HG.out.keep hX)
        replace ky0 := cellB hX ky0
        replace zky0 := Nat.lt_of_lt_of_le zky0 hX.size
        replace ky1 := cellB hX ky1
        replace HI2 := Lib.hid (HI2.out.keep hX)
        replace HS2 := Lib.hid (HS2.out.keep hX)
        have hC : Below w6.heap.size w6 w7 := hX
        clear hb hX
        go_wp2_with fail
        refine (qRats_same l2 _ _ _ (HI2.out.keep (by go_grown)) (HS2.out.keep (by go_grown))).mono ?_
        rintro e w8 ⟨rfl, hb⟩
        have hX : Below w7.heap.size w7 w8 := nextX (by go_grown) hb
        replace HV := Lib.hid (HV.out.keep hX)
        replace HU := Lib.hid (HU.out.keep hX)
        replace HR := Lib.hid (HR.out.keep hX)
        replace HI := Lib.hid (HI.out.keep hX)
        replace HS := Lib.hid (HS.out.keep hX)
        replace HG := Lib.hid (HG.out.keep hX)
        replace ky0 := cellB hX ky0
        replace zky0 := Nat.lt_of_lt_of_le zky0 hX.size
        replace ky1 := cellB hX ky1
        replace HI2 := Lib.hid (HI2.out.keep hX)
        replace HS2 := Lib.hid (HS2.out.keep hX)
        replace hC := nextW hC hX
        clear hb hX
        go_wp2_with fail
        refine (implIsMap_is ps _ _ _ (HR.out.keep (by go_grown)) (by omega) HT.out.flag).mono ?_
        rintro e w9 ⟨rfl, hb⟩
        have hX : Below w8.heap.size w8 w9 := nextX (by go_grown) hb
        replace HV := Lib.hid (HV.out.keep hX)
        replace HU := Lib.hid (HU.out.keep hX)
        replace HR := Lib.hid (HR.out.keep hX)
        replace HI := Lib.hid (HI.out.keep hX)
        replace HS := Lib.hid (HS.out.keep hX)
        replace HG := Lib.hid (HG.out.keep hX)
        replace ky0 := cellB hX ky0
        replace zky0 := Nat.lt_of_lt_of_le zky0 hX.size
        replace ky1 := cellB hX ky1
        replace HI2 := Lib.hid (HI2.out.keep hX)
        replace HS2 := Lib.hid (HS2.out.keep hX)
        replace hC := nextW hC hX
        clear hb hX
        go_wp2_with fail
        go_meet
        exact ⟨by first | rfl | (simp; done), by first | exact Below.refl _ _ | exact nextX hC (by go_grown) | go_grown⟩
      · go_wp2_with fail
        refine (qRats_same l _ _ _ (HI.out.keep (by go_grown)) (HS.out.keep (by go_grown))).mono ?_
        rintro e w7 ⟨rfl, hb⟩
        have hX : Below w6.heap.size w6 w7 := nextX (by go_grown) hb
        replace HV := Lib.hid (HV.out.keep hX)
        replace HU := Lib.hid (HU.out.keep hX)
        replace HR := Lib.hid (HR.out.keep hX)
        replace HI := Lib.hid (HI.out.keep hX)
        replace HS := Lib.hid (HS.out.keep hX)
        replace HG := Lib.hid (HG.out.keep hX)
        replace ky0 := cellB hX ky0
        replace zky0 := Nat.lt_of_lt_of_le zky0 hX.size
        replace ky1 := cellB hX ky1
        replace HI2 := Lib.hid (HI2.out.keep hX)
        replace HS2 := Lib.hid (HS2.out.keep hX)
        have hC : Below w6.heap.size w6 w7 := hX
        clear hb hX
        go_wp2_with fail
        refine (qRats_same l2 _ _ _ (HI2.out.keep (by go_grown)) (HS2.out.keep (by go_grown))).mono ?_
        rintro e w8 ⟨rfl, hb⟩
        have hX : Below w7.heap.size w7 w8 := nextX (by go_grown) hb
        replace HV := Lib.hid (HV.out.keep hX)
        replace HU := Lib.hid (HU.out.keep hX)
        replace HR := Lib.hid (HR.out.keep hX)
        replace HI := Lib.hid (HI.out.keep hX)
        replace HS := Lib.hid (HS.out.keep hX)
        replace HG := Lib.hid (HG.out.keep hX)
        replace ky0 := cellB hX ky0
        replace zky0 := Nat.lt_of_lt_of_le zky0 hX.size
        replace ky1 := cellB hX ky1
        replace HI2 := Lib.hid (HI2.out.keep hX)
        replace HS2 := Lib.hid (HS2.out.keep hX)
        replace hC := nextW hC hX
        clear hb hX
        go_wp2_with fail
        refine (implIsMap_is ps _ _ _ (HR.out.keep (by go_grown)) (by omega) HT.out.flag).mono ?_
        rintro e w9 ⟨rfl, hb⟩
        have hX : Below w8.heap.size w8 w9 := nextX (by go_grown) hb
        replace HV := Lib.hid (HV.out.keep hX)
        replace HU := Lib.hid (HU.out.keep hX)
        replace HR := Lib.hid (HR.out.keep hX)
        replace HI := Lib.hid (HI.out.keep hX)
        replace HS := Lib.hid (HS.out.keep hX)
        replace HG := Lib.hid (HG.out.keep hX)
        replace ky0 := cellB hX ky0
        replace zky0 := Nat.lt_of_lt_of_le zky0 hX.size
        replace ky1 := cellB hX ky1
        replace HI2 := Lib.hid (HI2.out.keep hX)
        replace HS2 := Lib.hid (HS2.out.keep hX)
        replace hC := nextW hC hX
        clear hb hX
        go_wp2_with fail
        go_meet
        exact ⟨by first | rfl | (simp; done), by first | exact Below.refl _ _ | exact nextX hC (by go_grown) | go_grown⟩
  case rest => as_aux_lemma =>
    obtain ⟨rfl, hX⟩ := hcut
    obtain ⟨w10, hwc⟩ : ∃ X : World, X = wc := ⟨_, rfl⟩
    subst hwc
    replace HV := Lib.hid (HV.out.keep hX)
    replace HU := Lib.hid (HU.out.keep hX)
    replace HR := Lib.hid (HR.out.keep hX)
    replace HI := Lib.hid (HI.out.keep hX)
    replace HS := Lib.hid (HS.out.keep hX)
    replace HG := Lib.hid (HG.out.keep hX)
    replace ky0 := cellB hX ky0
    replace zky0 := Nat.lt_of_lt_of_le zky0 hX.size
    replace ky1 := cellB hX ky1
    replace HI2 := Lib.hid (HI2.out.keep hX)
    replace HS2 := Lib.hid (HS2.out.keep hX)
    replace hB := nextW hB hX
    clear hX
    go_wp2_with fail
    go_loopw [95] (fun i wr => EqTo l.length w10 i wr) (fun i _ => l.length - (intOf i).toNat)
    case atStart => exact ⟨0, Nat.zero_le _, rfl, by go_grown⟩
    case round =>
      obtain ⟨k, hk, rfl, hbr⟩ := hrel
      by_cases hlt : k < l.length
      · have hq := List.getElem?_eq_getElem hlt
        generalize l[k] = x at hq
        obtain ⟨x1, x2⟩ := x
        obtain ⟨A3, c3, he, -, -, hcell⟩ := HS.out.keep hbr
        injection he with e1 e2 e3
        obtain ⟨gs, os, hA, hgs, hc⟩ := hcell (by intro e; rw [e] at hlt; simp at hlt)
        rw [hA] at e1
        subst e1
        clear e2 e3 hA
        obtain ⟨c0, c1⟩ := hc k _ hq
        have HSx := Lib.hid (HT.out.sm k _ hq)
        have kb : (k : Int) < (l.length : Int) := by omega
        have v1 : IntKind.i64.wrap ((k : Int) + 1) = (k : Int) + 1 := IntWalk.i64_in _ (by omega)
        replace HV := Lib.hid (HV.out.keep hbr)
        replace HU := Lib.hid (HU.out.keep hbr)
        replace HR := Lib.hid (HR.out.keep hbr)
        replace HI := Lib.hid (HI.out.keep hbr)
        replace HS := Lib.hid (HS.out.keep hbr)
        replace HG := Lib.hid (HG.out.keep hbr)
        replace ky0 := cellB hbr ky0
        replace zky0 := Nat.lt_of_lt_of_le zky0 hbr.size
        replace ky1 := cellB hbr ky1
        replace HI2 := Lib.hid (HI2.out.keep hbr)
        replace HS2 := Lib.hid (HS2.out.keep hbr)
        obtain ⟨⟨a, b, is⟩, hHX⟩ : ∃ r, vaQ ps (x1, x2) = r := ⟨_, rfl⟩
        have HX := Lib.hid hHX
        clear hHX
        have hown := HT.out.own k _ a b hq
        rcases is with _ | _
        · cases k with
          | zero =>
            simp only [Nat.zero_mul, Nat.add_zero] at c0 c1
            clear hc hq
            go_wp2_with fail
            refine (iValueAt_is ps _ x1 x2 _ _ _ _ (HR.out.keep (by go_grown)) (by omega) HX.out).mono ?_
            rintro e w11 ⟨rfl, hb⟩
            have hX : Below wr.heap.size wr w11 := nextX (by go_grown) hb
            replace HV := Lib.hid (HV.out.keep hX)
            replace HU := Lib.hid (HU.out.keep hX)
            replace HR := Lib.hid (HR.out.keep hX)
            replace HI := Lib.hid (HI.out.keep hX)
            replace HS := Lib.hid (HS.out.keep hX)
            replace HG := Lib.hid (HG.out.keep hX)
            replace ky0 := cellB hX ky0
            replace zky0 := Nat.lt_of_lt_of_le zky0 hX.size
            replace ky1 := cellB hX ky1
            replace HI2 := Lib.hid (HI2.out.keep hX)
            replace HS2 := Lib.hid (HS2.out.keep hX)
            replace c0 := cellB hX c0
            replace c1 := cellB hX c1
            have kx0 : w11.cell? ⟨wr.heap.size, 0, none⟩ = some (.int .i64 x1) := cellB hb (by simp [go_sem])
            have zkx0 := lt_of_cell kx0
            have kx1 : w11.cell? ⟨wr.heap.size, 1, none⟩ = some (.int .i64 x2) := cellB hb (by simp [go_sem])
            have hR : Below wr.heap.size wr w11 := hX
            clear hb hX
            go_wp2_with fail
            go_name_world W0 hW
            have hB0 : Below w11.heap.size w11 W0 := by rw [← hW]; go_grown
            have f0 := cellB hB0 kx0
            have f1 := cellB hB0 kx1
            have f2 : W0.cell? ⟨w11.heap.size, 0, none⟩ = some (.int .i64 a) := by rw [← hW]; simp [go_sem]
            have f3 : W0.cell? ⟨w11.heap.size, 1, none⟩ = some (.int .i64 b) := by rw [← hW]; simp [go_sem]
            clear hW
            refine wp_region_below (by kernel_rfl) (by kernel_rfl) ?_
            iterate 20 (first
              | (refine stepS rfl ?_; simp only [Act.put, List.setIfInBounds_toArray, List.set_cons_zero, List.set_cons_succ])
              | (refine stepV (v := ?_) rfl (fun W hW => ?_) ?_
                 rotate_left
                 focus
                   have qc0 := cellB hW.out f0
                   have qc1 := cellB hW.out f1
                   have qc2 := cellB hW.out f2
                   have qc3 := cellB hW.out f3
                   go_simp
                   try with_reducible rfl
                   done
                 simp only [Act.put, List.setIfInBounds_toArray, List.set_cons_zero, List.set_cons_succ]))
            refine stepN ?_
            intro wN hwN
            have hN := nextW hbr (nextW hR (nextW hB0 hwN.out))
            clear hwN hB0 f0 f1 f2 f3
            go_wp2_with fail
            go_roundw
            case rel => exact ⟨0 + 1, by omega, by go_num, hN⟩
            case measure => simp [intOf] <;> omega
          | succ j =>
            have hj : j < l.length := by omega
            have hqj := List.getElem?_eq_getElem hj
            generalize l[j] = y at hqj
            obtain ⟨p1, p2⟩ := y
            obtain ⟨d0, d1⟩ := hc j _ hqj
            have HSy := Lib.hid (HT.out.sm j _ hqj)
            have HC := Lib.hid (HT.out.up j _ _ hqj hq)
            have b0 : (0 : Int) < (j : Int) + 1 := by omega
            have b1 : (j : Int) < (l.length : Int) := by omega
            have b3 : (j : Int) + 1 < (l.length : Int) := by omega
            have v3 : IntKind.i64.wrap (j : Int) = (j : Int) := IntWalk.i64_in _ (by omega)
            have v4 : IntKind.i64.wrap ((j : Int) + 1) = (j : Int) + 1 := IntWalk.i64_in _ (by omega)
            have v5 : IntKind.i64.wrap ((j : Int) + 1 + 1) = (j : Int) + 1 + 1 := IntWalk.i64_in _ (by omega)
            have b4 : (1 : Int) ≤ (j : Int) + 1 := by omega
            clear hc hq hqj
            go_wp2_with fail
            refine (iValueAt_is ps _ x1 x2 _ _ _ _ (HR.out.keep (by go_grown)) (by omega) HX.out).mono ?_
            rintro e w11 ⟨rfl, hb⟩
            have hX : Below wr.heap.size wr w11 := nextX (by go_grown) hb
            replace HV := Lib.hid (HV.out.keep hX)
            replace HU := Lib.hid (HU.out.keep hX)
            replace HR := Lib.hid (HR.out.keep hX)
            replace HI := Lib.hid (HI.out.keep hX)
            replace HS := Lib.hid (HS.out.keep hX)
            replace HG := Lib.hid (HG.out.keep hX)
            replace ky0 := cellB hX ky0
            replace zky0 := Nat.lt_of_lt_of_le zky0 hX.size
            replace ky1 := cellB hX ky1
            replace HI2 := Lib.hid (HI2.out.keep hX)
            replace HS2 := Lib.hid (HS2.out.keep hX)
            replace c0 := cellB hX c0
            replace c1 := cellB hX c1
            replace d0 := cellB hX d0
            replace d1 := cellB hX d1
            have kx0 : w11.cell? ⟨wr.heap.size, 0, none⟩ = some (.int .i64 x1) := cellB hb (by simp [go_sem])
            have zkx0 := lt_of_cell kx0
            have kx1 : w11.cell? ⟨wr.heap.size, 1, none⟩ = some (.int .i64 x2) := cellB hb (by simp [go_sem])
            have hR : Below wr.heap.size wr w11 := hX
            clear hb hX
            go_wp2_with fail
            go_name_world W0 hW
            have hB0 : Below w11.heap.size w11 W0 := by rw [← hW]; go_grown
            have f0 := cellB hB0 kx0
            have f1 := cellB hB0 kx1
            have f2 : W0.cell? ⟨w11.heap.size, 0, none⟩ = some (.int .i64 a) := by rw [← hW]; simp [go_sem]
            have f3 : W0.cell? ⟨w11.heap.size, 1, none⟩ = some (.int .i64 b) := by rw [← hW]; simp [go_sem]
            have g0 := cellB hB0 d0
            have g1 := cellB hB0 d1
            clear hW
            refine wp_region_below (by kernel_rfl) (by kernel_rfl) ?_
            iterate 20 (first
              | (refine stepS rfl ?_; simp only [Act.put, List.setIfInBounds_toArray, List.set_cons_zero, List.set_cons_succ])
              | (refine stepV (v := ?_) rfl (fun W hW => ?_) ?_
                 rotate_left
                 focus
                   have qc0 := cellB hW.out f0
                   have qc1 := cellB hW.out f1
                   have qc2 := cellB hW.out f2
                   have qc3 := cellB hW.out f3
                   have qc4 := cellB hW.out g0
                   have qc5 := cellB hW.out g1
                   go_simp
                   try with_reducible rfl
                   done
                 simp only [Act.put, List.setIfInBounds_toArray, List.set_cons_zero, List.set_cons_succ])
              | (refine stepC rfl (fun W hW => ?_) (fun W hW => callB hW (qUp_val HSy.out HSx.out HC.out _)) ?_
                 focus
                   have qc0 := cellB hW.out f0
                   have qc1 := cellB hW.out f1
                   have qc2 := cellB hW.out f2
                   have qc3 := cellB hW.out f3
                   have qc4 := cellB hW.out g0
                   have qc5 := cellB hW.out g1
                   go_simp
                   try with_reducible rfl
                   done
                 simp only [Act.put, List.setIfInBounds_toArray, List.set_cons_zero, List.set_cons_succ]))
            refine stepN ?_
            intro wN hwN
            have hN := nextW hbr (nextW hR (nextW hB0 hwN.out))
            clear hwN hB0 f0 f1 f2 f3 g0 g1
            go_wp2_with fail
            go_roundw
            case rel => exact ⟨j + 1 + 1, by omega, by go_num, hN⟩
            case measure => simp [intOf] <;> omega
        · obtain ⟨rfl, rfl⟩ := Prod.mk.inj (hown HX.out)
          cases k with
          | zero =>
            simp only [Nat.zero_mul, Nat.add_zero] at c0 c1
            clear hc hq
            go_wp2_with fail
            refine (iValueAt_is ps _ a b _ _ _ _ (HR.out.keep (by go_grown)) (by omega) HX.out).mono ?_
            rintro e w11 ⟨rfl, hb⟩
            have hX : Below wr.heap.size wr w11 := nextX (by go_grown) hb
            replace HV := Lib.hid (HV.out.keep hX)
            replace HU := Lib.hid (HU.out.keep hX)
            replace HR := Lib.hid (HR.out.keep hX)
            replace HI := Lib.hid (HI.out.keep hX)
            replace HS := Lib.hid (HS.out.keep hX)
            replace HG := Lib.hid (HG.out.keep hX)
            replace ky0 := cellB hX ky0
            replace zky0 := Nat.lt_of_lt_of_le zky0 hX.size
            replace ky1 := cellB hX ky1
            replace HI2 := Lib.hid (HI2.out.keep hX)
            replace HS2 := Lib.hid (HS2.out.keep hX)
            replace c0 := cellB hX c0
            replace c1 := cellB hX c1
            have kx0 : w11.cell? ⟨wr.heap.size, 0, none⟩ = some (.int .i64 a) := cellB hb (by simp [go_sem])
            have zkx0 := lt_of_cell kx0
            have kx1 : w11.cell? ⟨wr.heap.size, 1, none⟩ = some (.int .i64 b) := cellB hb (by simp [go_sem])
            have hR : Below wr.heap.size wr w11 := hX
            clear hb hX
            go_wp2_with fail
            go_name_world W0 hW
            have hB0 : Below w11.heap.size w11 W0 := by rw [← hW]; go_grown
            have f0 := cellB hB0 kx0
            have f1 := cellB hB0 kx1
            have f2 : W0.cell? ⟨w11.heap.size, 0, none⟩ = some (.int .i64 a) := by rw [← hW]; simp [go_sem]
            have f3 : W0.cell? ⟨w11.heap.size, 1, none⟩ = some (.int .i64 b) := by rw [← hW]; simp [go_sem]
            clear hW
            refine wp_region_below (by kernel_rfl) (by kernel_rfl) ?_
            iterate 20 (first
              | (refine stepS rfl ?_; simp only [Act.put, List.setIfInBounds_toArray, List.set_cons_zero, List.set_cons_succ])
              | (refine stepV (v := ?_) rfl (fun W hW => ?_) ?_
                 rotate_left
                 focus
                   have qc0 := cellB hW.out f0
                   have qc1 := cellB hW.out f1
                   have qc2 := cellB hW.out f2
                   have qc3 := cellB hW.out f3
                   go_simp
                   try with_reducible rfl
                   done
                 simp only [Act.put, List.setIfInBounds_toArray, List.set_cons_zero, List.set_cons_succ]))
            refine stepN ?_
            intro wN hwN
            have hN := nextW hbr (nextW hR (nextW hB0 hwN.out))
            clear hwN hB0 f0 f1 f2 f3
            go_wp2_with fail
            go_roundw
            case rel => exact ⟨0 + 1, by omega, by go_num, hN⟩
            case measure => simp [intOf] <;> omega
          | succ j =>
            have hj : j < l.length := by omega
            have hqj := List.getElem?_eq_getElem hj
            generalize l[j] = y at hqj
            obtain ⟨p1, p2⟩ := y
            obtain ⟨d0, d1⟩ := hc j _ hqj
            have HSy := Lib.hid (HT.out.sm j _ hqj)
            have HC := Lib.hid (HT.out.up j _ _ hqj hq)
            have b0 : (0 : Int) < (j : Int) + 1 := by omega
            have b1 : (j : Int) < (l.length : Int) := by omega
            have b3 : (j : Int) + 1 < (l.length : Int) := by omega
            have v3 : IntKind.i64.wrap (j : Int) = (j : Int) := IntWalk.i64_in _ (by omega)
            have v4 : IntKind.i64.wrap ((j : Int) + 1) = (j : Int) + 1 := IntWalk.i64_in _ (by omega)
            have v5 : IntKind.i64.wrap ((j : Int) + 1 + 1) = (j : Int) + 1 + 1 := IntWalk.i64_in _ (by omega)
            have b4 : (1 : Int) ≤ (j : Int) + 1 := by omega
            clear hc hq hqj
            go_wp2_with fail
            refine (iValueAt_is ps _ a b _ _ _ _ (HR.out.keep (by go_grown)) (by omega) HX.out).mono ?_
            rintro e w11 ⟨rfl, hb⟩
            have hX : Below wr.heap.size wr w11 := nextX (by go_grown) hb
            replace HV := Lib.hid (HV.out.keep hX)
            replace HU := Lib.hid (HU.out.keep hX)
            replace HR := Lib.hid (HR.out.keep hX)
            replace HI := Lib.hid (HI.out.keep hX)
            replace HS := Lib.hid (HS.out.keep hX)
            replace HG := Lib.hid (HG.out.keep hX)
            replace ky0 := cellB hX ky0
            replace zky0 := Nat.lt_of_lt_of_le zky0 hX.size
            replace ky1 := cellB hX ky1
            replace HI2 := Lib.hid (HI2.out.keep hX)
            replace HS2 := Lib.hid (HS2.out.keep hX)
            replace c0 := cellB hX c0
            replace c1 := cellB hX c1
            replace d0 := cellB hX d0
            replace d1 := cellB hX d1
            have kx0 : w11.cell? ⟨wr.heap.size, 0, none⟩ = some (.int .i64 a) := cellB hb (by simp [go_sem])
            have zkx0 := lt_of_cell kx0
            have kx1 : w11.cell? ⟨wr.heap.size, 1, none⟩ = some (.int .i64 b) := cellB hb (by simp [go_sem])
            have hR : Below wr.heap.size wr w11 := hX
            clear hb hX
            go_wp2_with fail
            go_name_world W0 hW
            have hB0 : Below w11.heap.size w11 W0 := by rw [← hW]; go_grown
            have f0 := cellB hB0 kx0
            have f1 := cellB hB0 kx1
            have f2 : W0.cell? ⟨w11.heap.size, 0, none⟩ = some (.int .i64 a) := by rw [← hW]; simp [go_sem]
            have f3 : W0.cell? ⟨w11.heap.size, 1, none⟩ = some (.int .i64 b) := by rw [← hW]; simp [go_sem]
            have g0 := cellB hB0 d0
            have g1 := cellB hB0 d1
            clear hW
            refine wp_region_below (by kernel_rfl) (by kernel_rfl) ?_
            iterate 20 (first
              | (refine stepS rfl ?_; simp only [Act.put, List.setIfInBounds_toArray, List.set_cons_zero, List.set_cons_succ])
              | (refine stepV (v := ?_) rfl (fun W hW => ?_) ?_
                 rotate_left
                 focus
                   have qc0 := cellB hW.out f0
                   have qc1 := cellB hW.out f1
                   have qc2 := cellB hW.out f2
                   have qc3 := cellB hW.out f3
                   have qc4 := cellB hW.out g0
                   have qc5 := cellB hW.out g1
                   go_simp
                   try with_reducible rfl
                   done
                 simp only [Act.put, List.setIfInBounds_toArray, List.set_cons_zero, List.set_cons_succ])
              | (refine stepC rfl (fun W hW => ?_) (fun W hW => callB hW (qUp_val HSy.out HSx.out HC.out _)) ?_
                 focus
                   have qc0 := cellB hW.out f0
                   have qc1 := cellB hW.out f1
                   have qc2 := cellB hW.out f2
                   have qc3 := cellB hW.out f3
                   have qc4 := cellB hW.out g0
                   have qc5 := cellB hW.out g1
                   go_simp
                   try with_reducible rfl
                   done
                 simp only [Act.put, List.setIfInBounds_toArray, List.set_cons_zero, List.set_cons_succ]))
            refine stepN ?_
            intro wN hwN
            have hN := nextW hbr (nextW hR (nextW hB0 hwN.out))
            clear hwN hB0 f0 f1 f2 f3 g0 g1
            go_wp2_with fail
            go_roundw
            case rel => exact ⟨j + 1 + 1, by omega, by go_num, hN⟩
            case measure => simp [intOf] <;> omega
      · obtain rfl : k = l.length := by omega
        replace HV := Lib.hid (HV.out.keep hbr)
        replace HU := Lib.hid (HU.out.keep hbr)
        replace HR := Lib.hid (HR.out.keep hbr)
        replace HI := Lib.hid (HI.out.keep hbr)
        replace HS := Lib.hid (HS.out.keep hbr)
        replace HG := Lib.hid (HG.out.keep hbr)
        replace ky0 := cellB hbr ky0
        replace zky0 := Nat.lt_of_lt_of_le zky0 hbr.size
        replace ky1 := cellB hbr ky1
        replace HI2 := Lib.hid (HI2.out.keep hbr)
        replace HS2 := Lib.hid (HS2.out.keep hbr)
        replace hB := nextW hB hbr
        obtain ⟨wm, hwm⟩ : ∃ X : World, X = wr := ⟨_, rfl⟩
        subst hwm
        clear hbr hk hlt
        go_wp2_with fail
        go_loopw [129] (fun i wr => EqTo l2.length wm i wr) (fun i _ => l2.length - (intOf i).toNat)
        case atStart => exact ⟨0, Nat.zero_le _, rfl, by go_grown⟩
        case round =>
          obtain ⟨k, hk, rfl, hbr⟩ := hrel
          by_cases hlt : k < l2.length
          · have hq := List.getElem?_eq_getElem hlt
            generalize l2[k] = x at hq
            obtain ⟨x1, x2⟩ := x
            obtain ⟨A3, c3, he, -, -, hcell⟩ := HS2.out.keep hbr
            injection he with e1 e2 e3
            obtain ⟨gs, os, hA, hgs, hc⟩ := hcell (by intro e; rw [e] at hlt; simp at hlt)
            rw [hA] at e1
            subst e1
            clear e2 e3 hA
            obtain ⟨c0, c1⟩ := hc k _ hq
            have HSx := Lib.hid (HT2.out.sm k _ hq)
            have kb : (k : Int) < (l2.length : Int) := by omega
            have v1 : IntKind.i64.wrap ((k : Int) + 1) = (k : Int) + 1 := IntWalk.i64_in _ (by omega)
            replace HV := Lib.hid (HV.out.keep hbr)
            replace HU := Lib.hid (HU.out.keep hbr)
            replace HR := Lib.hid (HR.out.keep hbr)
            replace HI := Lib.hid (HI.out.keep hbr)
            replace HS := Lib.hid (HS.out.keep hbr)
            replace HG := Lib.hid (HG.out.keep hbr)
            replace ky0 := cellB hbr ky0
            replace zky0 := Nat.lt_of_lt_of_le zky0 hbr.size
            replace ky1 := cellB hbr ky1
            replace HI2 := Lib.hid (HI2.out.keep hbr)
            replace HS2 := Lib.hid (HS2.out.keep hbr)
            obtain ⟨⟨a, b, is⟩, hHX⟩ : ∃ r, vaQ ps2 (x1, x2) = r := ⟨_, rfl⟩
            have HX := Lib.hid hHX
            clear hHX
            have hown := HT2.out.own k _ hq
            rw [HX.out] at hown
            obtain ⟨rfl, hown⟩ := Prod.mk.inj hown
            obtain ⟨rfl, rfl⟩ := Prod.mk.inj hown
            clear hown
            cases k with
            | zero =>
              simp only [Nat.zero_mul, Nat.add_zero] at c0 c1
              clear hc hq
              go_wp2_with fail
              refine (iValueAt_is ps2 _ x1 x2 _ _ _ _ (HG.out.keep (by go_grown)) (by omega) HX.out).mono ?_
              rintro e w11 ⟨rfl, hb⟩
              have hX : Below wr.heap.size wr w11 := nextX (by go_grown) hb
              replace HV := Lib.hid (HV.out.keep hX)
              replace HU := Lib.hid (HU.out.keep hX)
              replace HR := Lib.hid (HR.out.keep hX)
              replace HI := Lib.hid (HI.out.keep hX)
              replace HS := Lib.hid (HS.out.keep hX)
              replace HG := Lib.hid (HG.out.keep hX)
              replace ky0 := cellB hX ky0
              replace zky0 := Nat.lt_of_lt_of_le zky0 hX.size
              replace ky1 := cellB hX ky1
              replace HI2 := Lib.hid (HI2.out.keep hX)
              replace HS2 := Lib.hid (HS2.out.keep hX)
              replace c0 := cellB hX c0
              replace c1 := cellB hX c1
              have kx0 : w11.cell? ⟨wr.heap.size, 0, none⟩ = some (.int .i64 x1) := cellB hb (by simp [go_sem])
              have zkx0 := lt_of_cell kx0
              have kx1 : w11.cell? ⟨wr.heap.size, 1, none⟩ = some (.int .i64 x2) := cellB hb (by simp [go_sem])
              have hR : Below wr.heap.size wr w11 := hX
              clear hb hX
              go_wp2_with fail
              go_name_world W0 hW
              have hB0 : Below w11.heap.size w11 W0 := by rw [← hW]; go_grown
              have f0 := cellB hB0 kx0
              have f1 := cellB hB0 kx1
              have f2 : W0.cell? ⟨w11.heap.size, 0, none⟩ = some (.int .i64 a) := by rw [← hW]; simp [go_sem]
              have f3 : W0.cell? ⟨w11.heap.size, 1, none⟩ = some (.int .i64 b) := by rw [← hW]; simp [go_sem]
              have f4 := cellB hB0 ky0
              have f5 := cellB hB0 ky1
              clear hW
              refine wp_region_below (by kernel_rfl) (by kernel_rfl) ?_
              iterate 21 (first
                | (refine stepS rfl ?_; simp only [Act.put, List.setIfInBounds_toArray, List.set_cons_zero, List.set_cons_succ])
                | (refine stepV (v := ?_) rfl (fun W hW => ?_) ?_
                   rotate_left
                   focus
                     have qc0 := cellB hW.out f0
                     have qc1 := cellB hW.out f1
                     have qc2 := cellB hW.out f2
                     have qc3 := cellB hW.out f3
                     have qc4 := cellB hW.out f4
                     have qc5 := cellB hW.out f5
                     go_simp
                     try with_reducible rfl
                     done
                   simp only [Act.put, List.setIfInBounds_toArray, List.set_cons_zero, List.set_cons_succ]))
              refine stepN ?_
              intro wN hwN
              have hN := nextW hbr (nextW hR (nextW hB0 hwN.out))
              clear hwN hB0 f0 f1 f2 f3
              go_wp2_with fail
              go_roundw
              case rel => exact ⟨0 + 1, by omega, by go_num, hN⟩
              case measure => simp [intOf] <;> omega
            | succ j =>
              have hj : j < l2.length := by omega
              have hqj := List.getElem?_eq_getElem hj
              generalize l2[j] = y at hqj
              obtain ⟨p1, p2⟩ := y
              obtain ⟨d0, d1⟩ := hc j _ hqj
              have HSy := Lib.hid (HT2.out.sm j _ hqj)
              have HC := Lib.hid (HT2.out.up j _ _ hqj hq)
              have b0 : (0 : Int) < (j : Int) + 1 := by omega
              have b1 : (j : Int) < (l2.length : Int) := by omega
              have b3 : (j : Int) + 1 < (l2.length : Int) := by omega
              have v3 : IntKind.i64.wrap (j : Int) = (j : Int) := IntWalk.i64_in _ (by omega)
              have v4 : IntKind.i64.wrap ((j : Int) + 1) = (j : Int) + 1 := IntWalk.i64_in _ (by omega)
              have v5 : IntKind.i64.wrap ((j : Int) + 1 + 1) = (j : Int) + 1 + 1 := IntWalk.i64_in _ (by omega)
              have b4 : (1 : Int) ≤ (j : Int) + 1 := by omega
              clear hc hq hqj
              go_wp2_with fail
              refine (iValueAt_is ps2 _ x1 x2 _ _ _ _ (HG.out.keep (by go_grown)) (by omega) HX.out).mono ?_
              rintro e w11 ⟨rfl, hb⟩
              have hX : Below wr.heap.size wr w11 := nextX (by go_grown) hb
              replace HV := Lib.hid (HV.out.keep hX)
              replace HU := Lib.hid (HU.out.keep hX)
              replace HR := Lib.hid (HR.out.keep hX)
              replace HI := Lib.hid (HI.out.keep hX)
              replace HS := Lib.hid (HS.out.keep hX)
              replace HG := Lib.hid (HG.out.keep hX)
              replace ky0 := cellB hX ky0
              replace zky0 := Nat.lt_of_lt_of_le zky0 hX.size
              replace ky1 := cellB hX ky1
              replace HI2 := Lib.hid (HI2.out.keep hX)
              replace HS2 := Lib.hid (HS2.out.keep hX)
              replace c0 := cellB hX c0
              replace c1 := cellB hX c1
              replace d0 := cellB hX d0
              replace d1 := cellB hX d1
              have kx0 : w11.cell? ⟨wr.heap.size, 0, none⟩ = some (.int .i64 x1) := cellB hb (by simp [go_sem])
              have zkx0 := lt_of_cell kx0
              have kx1 : w11.cell? ⟨wr.heap.size, 1, none⟩ = some (.int .i64 x2) := cellB hb (by simp [go_sem])
              have hR : Below wr.heap.size wr w11 := hX
              clear hb hX
              go_wp2_with fail
              go_name_world W0 hW
              have hB0 : Below w11.heap.size w11 W0 := by rw [← hW]; go_grown
              have f0 := cellB hB0 kx0
              have f1 := cellB hB0 kx1
              have f2 : W0.cell? ⟨w11.heap.size, 0, none⟩ = some (.int .i64 a) := by rw [← hW]; simp [go_sem]
              have f3 : W0.cell? ⟨w11.heap.size, 1, none⟩ = some (.int .i64 b) := by rw [← hW]; simp [go_sem]
              have f4 := cellB hB0 ky0
              have f5 := cellB hB0 ky1
              have g0 := cellB hB0 d0
              have g1 := cellB hB0 d1
              clear hW
              refine wp_region_below (by kernel_rfl) (by kernel_rfl) ?_
              iterate 21 (first
                | (refine stepS rfl ?_; simp only [Act.put, List.setIfInBounds_toArray, List.set_cons_zero, List.set_cons_succ])
                | (refine stepV (v := ?_) rfl (fun W hW => ?_) ?_
                   rotate_left
                   focus
                     have qc0 := cellB hW.out f0
                     have qc1 := cellB hW.out f1
                     have qc2 := cellB hW.out f2
                     have qc3 := cellB hW.out f3
                     have qc4 := cellB hW.out g0
                     have qc5 := cellB hW.out g1
                     have qc6 := cellB hW.out f4
                     have qc7 := cellB hW.out f5
                     go_simp
                     try with_reducible rfl
                     done
                   simp only [Act.put, List.setIfInBounds_toArray, List.set_cons_zero, List.set_cons_succ])
                | (refine stepC rfl (fun W hW => ?_) (fun W hW => callB hW (qUp_val HSy.out HSx.out HC.out _)) ?_
                   focus
                     have qc0 := cellB hW.out f0
                     have qc1 := cellB hW.out f1
                     have qc2 := cellB hW.out f2
                     have qc3 := cellB hW.out f3
                     have qc4 := cellB hW.out g0
                     have qc5 := cellB hW.out g1
                     have qc6 := cellB hW.out f4
                     have qc7 := cellB hW.out f5
                     go_simp
                     try with_reducible rfl
                     done
                   simp only [Act.put, List.setIfInBounds_toArray, List.set_cons_zero, List.set_cons_succ]))
              refine stepN ?_
              intro wN hwN
              have hN := nextW hbr (nextW hR (nextW hB0 hwN.out))
              clear hwN hB0 f0 f1 f2 f3 g0 g1
              go_wp2_with fail
              go_roundw
              case rel => exact ⟨j + 1 + 1, by omega, by go_num, hN⟩
              case measure => simp [intOf] <;> omega
          · obtain rfl : k = l2.length := by omega
            replace HV := Lib.hid (HV.out.keep hbr)
            replace HU := Lib.hid (HU.out.keep hbr)
            replace HR := Lib.hid (HR.out.keep hbr)
            replace HI := Lib.hid (HI.out.keep hbr)
            replace HS := Lib.hid (HS.out.keep hbr)
            replace HG := Lib.hid (HG.out.keep hbr)
            replace ky0 := cellB hbr ky0
            replace zky0 := Nat.lt_of_lt_of_le zky0 hbr.size
            replace ky1 := cellB hbr ky1
            replace HI2 := Lib.hid (HI2.out.keep hbr)
            replace HS2 := Lib.hid (HS2.out.keep hbr)
            replace hB := nextW hB hbr
            go_wp2_with fail
            go_ret
            exact ⟨rfl, by first | exact hB | exact nextX hB (by go_grown)⟩

set_option maxRecDepth 100000 in
theorem lifted (os : Os) (started : os.Started) (H : Type) (enc : TypeId × Value → H) :
    ReturnsInHanded {} Tryz.checked os 6 .any (Rows.fnFixedSpec.pre6 enc Tryz.prog Tryz.f6 Rows.fnFixedRow.domain false) (Rows.fnFixedSpec.post enc Tryz.prog Tryz.f6 false true false false) := by
  refine returnsInHanded_of_change (C := Tryz.checked) Tryz.own started (by kernel_rfl) Tryz.func6
    (ChangeSpec.witness6 (enc := enc) (C := Tryz.checked) false ⟨#[], #[.slice none 0 0, .slice none 0 0], []⟩ 8 (by kernel_rfl) (by kernel_rfl) (by kernel_rfl) (by kernel_rfl)) ?_
  intro W base args ds gs before hval0 hW hcnd _
  have hval : ∀ (j : Nat) t v, Tryz.f6.params[j]? = some t → args[j]? = some v → Value.okWide Tryz.prog W .any base t v := hval0
  have hW' := hW
  obtain ⟨p, q, hA0, hV, rfl, hfz, hnd⟩ := hW
  have hA : DataW.TrodAll enc Tryz.prog W 0 (fun _ => true) true Tryz.f6.params.toList args.toList ds p := hA0
  rw [Tryz.params6] at hA hval
  obtain ⟨v0, v1, d0, d1, p0, p1, rfl, rfl, rfl, h0, h1⟩ := trodAll_two hA
  obtain ⟨bs0, hr0, hb0⟩ := open_code (hval 0 22 v0 rfl rfl) h0
  obtain ⟨bs1, hr1, hb1⟩ := open_code (hval 1 22 v1 rfl rfl) h1
  refine (walk _ _ bs0 bs1 W hr0 hr1 hb0 hb1).mono fun e W' ⟨he, hb⟩ => ?_
  subst he
  exact ⟨_, rfl, law_close Tryz.laidOut (by kernel_rfl) (by kernel_rfl) Tryz.underlying4 rfl hW' (fun h => by rfl) hb⟩

theorem proved : Rows.FnFixedSaid :=
  OpenClaim.holds_of_wide 6 Tryz.f6 rfl rfl rfl rfl rfl rfl rfl ⟨rfl, rfl, rfl, rfl, rfl⟩ rfl rfl rfl rfl rfl (by kernel_rfl) Tryz.func6 (by kernel_rfl)
    (of_decide_eq_true (by kernel_rfl)) (by unfold Func.isWrapper; first | (rw [if_pos (by decide +kernel)]; kernel_rfl) | (rw [if_neg (by decide +kernel)]; exact ⟨rfl, rfl⟩))
    (fun os started H enc _ => lifted os started H enc)

end Go.Proofs.YtkeajfgcjmhmiaaGreat.lawFnFixed
