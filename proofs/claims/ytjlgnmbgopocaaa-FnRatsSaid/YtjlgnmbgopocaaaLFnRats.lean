/- Proved: for all drawn fractions, sums and differences undo each other, so do products and quotients, and the order is that of differences; the arguments read afterwards as they did. No condition. -/
import Derived.Test.YtjlgnmbgopocaaaCode
import Derived.Test.YtjlgnmbgopocaaaCurR
import Derived.Test.YtjlgnmbgopocaaaRatLaw
namespace Go.Proofs.Ytjlgnmbgopocaaa.lawFnRats
open Go.Proofs.Ytjlgnmbgopocaaa
open Go.ChangeShapes Go.WideShapes Go.ChangeAt Go.RowKit Go.Joins

theorem iCmp_any (n1 d1 n2 d2 o : Int) (t : Bool) (h : cmpR n1 d1 n2 d2 = (o, t)) (w : World) :
    Calls Try.prog 14 #[.agg #[.int .i64 n1, .int .i64 d1], .agg #[.int .i64 n2, .int .i64 d2]] w fun e w' => e = .returned (.tuple #[.int .i64 o, .bool t]) ∧ Below w.heap.size w w' := by
  unfold cmpR at h
  by_cases hk : (okQ n1 d1 && okQ n2 d2) = true
  · rw [if_pos hk] at h
    obtain ⟨rfl, rfl⟩ := Prod.mk.inj h
    exact compareRats_yes n1 d1 n2 d2 hk w
  · rw [if_neg hk] at h
    obtain ⟨rfl, rfl⟩ := Prod.mk.inj h
    exact compareRats_no n1 d1 n2 d2 (by simpa using hk) w
theorem sCmp_any (n1 d1 n2 d2 o : Int) (t : Bool) (h : cmpR n1 d1 n2 d2 = (o, t)) (w : World) :
    Calls Try.prog 15 #[.agg #[.int .i64 n1, .int .i64 d1], .agg #[.int .i64 n2, .int .i64 d2]] w fun e w' => e = .returned (.tuple #[.int .i64 o, .bool t]) ∧ Below w.heap.size w w' := by
  unfold cmpR at h
  by_cases hk : (okQ n1 d1 && okQ n2 d2) = true
  · rw [if_pos hk] at h
    obtain ⟨rfl, rfl⟩ := Prod.mk.inj h
    exact sCompare_yes n1 d1 n2 d2 hk w
  · rw [if_neg hk] at h
    obtain ⟨rfl, rfl⟩ := Prod.mk.inj h
    exact sCompare_no n1 d1 n2 d2 (by simpa using hk) w

set_option maxRecDepth 100000 in
set_option maxHeartbeats 12800000 in
theorem walk (v u : Value) (bs cs : List Int) (w : World) (hv : RdN .u8 w v bs) (hu : RdN .u8 w u cs) (hbs : ∀ x ∈ bs, 0 ≤ x ∧ x ≤ 255) :
    Calls Try.prog 3 #[v, u] w fun e w' => e = .returned (.bool true) ∧ Below w.heap.size w w' := by
  have HV := Lib.hid hv
  have HU := Lib.hid hu
  have HBs := Lib.hid hbs
  obtain ⟨A, cv, rfl, -, -, -⟩ := hv
  obtain ⟨A2, cu, rfl, -, -, -⟩ := hu
  clear hbs
  rcases hbig : bigB bs.length cs.length with _ | _
  · have HBg := Lib.hid hbig
    clear hbig
    go_enter Try.func3, Try.ntmps3
    go_wp2_with fail
    refine (big_is _ _ bs cs _ (HV.out.keep (by go_grown)) (HU.out.keep (by go_grown))).mono ?_
    rintro e w1 ⟨he, hb⟩
    rw [HBg.out] at he
    subst he
    have hX : Below w.heap.size w w1 := nextX (by go_grown) hb
    have hB : Below w.heap.size w w1 := hX
    clear hb hX
    go_wp2_with fail
    refine (drawAdd_is _ bs _ (HV.out.keep (nextX hB (by go_grown))) HBs.out).mono ?_
    rintro e w2 ⟨a, b, c, d, rfl, hi, hb⟩
    have hX : Below w1.heap.size w1 w2 := nextX (by go_grown) hb
    replace hB := nextW hB hX
    clear hb hX
    obtain ⟨⟨s1, s2, ts⟩, hHS⟩ : ∃ r, addQ a b c d = r := ⟨_, rfl⟩
    have HS := Lib.hid hHS
    clear hHS
    obtain ⟨⟨e1, e2, te⟩, hHE⟩ : ∃ r, subQ a b c d = r := ⟨_, rfl⟩
    have HE := Lib.hid hHE
    clear hHE
    obtain ⟨⟨p1, p2, tp⟩, hHP⟩ : ∃ r, mulQ a b c d = r := ⟨_, rfl⟩
    have HP := Lib.hid hHP
    clear hHP
    obtain ⟨⟨q1, q2, tq⟩, hHQ⟩ : ∃ r, divQ a b c d = r := ⟨_, rfl⟩
    have HQ := Lib.hid hHQ
    clear hHQ
    obtain ⟨⟨m1, m2, tm⟩, hHM⟩ : ∃ r, midQ a b c d = r := ⟨_, rfl⟩
    have HM := Lib.hid hHM
    clear hHM
    obtain ⟨⟨o, tc⟩, hC⟩ : ∃ r, cmpR a b c d = r := ⟨_, rfl⟩
    have HC := Lib.hid hC
    clear hC
    have HI := Lib.hid hi
    have hid := hi.2
    clear hi
    go_wp2_with fail
    refine (addRats_any a b c d s1 s2 ts HS.out _).mono ?_
    rintro e w3 ⟨rfl, hb⟩
    have hX : Below w2.heap.size w2 w3 := nextX (by go_grown) hb
    have kxa_0 : w3.cell? ⟨w2.heap.size, 0, none⟩ = some (.int .i64 a) := cellB hb (by simp [go_sem])
    have kxa_1 : w3.cell? ⟨w2.heap.size, 1, none⟩ = some (.int .i64 b) := cellB hb (by simp [go_sem])
    have kxb_0 : w3.cell? ⟨w2.heap.size + 1, 0, none⟩ = some (.int .i64 c) := cellB hb (by simp [go_sem])
    have kxb_1 : w3.cell? ⟨w2.heap.size + 1, 1, none⟩ = some (.int .i64 d) := cellB hb (by simp [go_sem])
    have zkxa_0 := lt_of_cell kxa_0
    have zkxb_0 := lt_of_cell kxb_0
    replace hB := nextW hB hX
    clear hb hX
    go_wp2_with fail
    refine (sAdd_any a b c d s1 s2 ts HS.out _).mono ?_
    rintro e w4 ⟨rfl, hb⟩
    have hX : Below w3.heap.size w3 w4 := nextX (by go_grown) hb
    replace kxa_0 := cellB hX kxa_0
    replace kxa_1 := cellB hX kxa_1
    replace kxb_0 := cellB hX kxb_0
    replace kxb_1 := cellB hX kxb_1
    have ks_0 : w4.cell? ⟨w3.heap.size, 0, none⟩ = some (.int .i64 s1) := cellB hb (by simp [go_sem])
    have ks_1 : w4.cell? ⟨w3.heap.size, 1, none⟩ = some (.int .i64 s2) := cellB hb (by simp [go_sem])
    have zks_0 := lt_of_cell ks_0
    replace zkxa_0 := Nat.lt_of_lt_of_le zkxa_0 hX.size
    replace zkxb_0 := Nat.lt_of_lt_of_le zkxb_0 hX.size
    replace hB := nextW hB hX
    clear hb hX
    go_wp2_with fail
    refine (subRats_any a b c d e1 e2 te HI.out.2.1 HE.out _).mono ?_
    rintro e w5 ⟨rfl, hb⟩
    have hX : Below w4.heap.size w4 w5 := nextX (by go_grown) hb
    replace kxa_0 := cellB hX kxa_0
    replace kxa_1 := cellB hX kxa_1
    replace kxb_0 := cellB hX kxb_0
    replace kxb_1 := cellB hX kxb_1
    replace ks_0 := cellB hX ks_0
    replace ks_1 := cellB hX ks_1
    have kS_0 : w5.cell? ⟨w4.heap.size, 0, none⟩ = some (.int .i64 s1) := cellB hb (by simp [go_sem])
    have kS_1 : w5.cell? ⟨w4.heap.size, 1, none⟩ = some (.int .i64 s2) := cellB hb (by simp [go_sem])
    have zkS_0 := lt_of_cell kS_0
    replace zkxa_0 := Nat.lt_of_lt_of_le zkxa_0 hX.size
    replace zkxb_0 := Nat.lt_of_lt_of_le zkxb_0 hX.size
    replace zks_0 := Nat.lt_of_lt_of_le zks_0 hX.size
    replace hB := nextW hB hX
    clear hb hX
    go_wp2_with fail
    refine (sSub_any a b c d e1 e2 te HE.out _).mono ?_
    rintro e w6 ⟨rfl, hb⟩
    have hX : Below w5.heap.size w5 w6 := nextX (by go_grown) hb
    replace kxa_0 := cellB hX kxa_0
    replace kxa_1 := cellB hX kxa_1
    replace kxb_0 := cellB hX kxb_0
    replace kxb_1 := cellB hX kxb_1
    replace ks_0 := cellB hX ks_0
    replace ks_1 := cellB hX ks_1
    replace kS_0 := cellB hX kS_0
    replace kS_1 := cellB hX kS_1
    have ke_0 : w6.cell? ⟨w5.heap.size, 0, none⟩ = some (.int .i64 e1) := cellB hb (by simp [go_sem])
    have ke_1 : w6.cell? ⟨w5.heap.size, 1, none⟩ = some (.int .i64 e2) := cellB hb (by simp [go_sem])
    have zke_0 := lt_of_cell ke_0
    replace zkxa_0 := Nat.lt_of_lt_of_le zkxa_0 hX.size
    replace zkxb_0 := Nat.lt_of_lt_of_le zkxb_0 hX.size
    replace zks_0 := Nat.lt_of_lt_of_le zks_0 hX.size
    replace zkS_0 := Nat.lt_of_lt_of_le zkS_0 hX.size
    replace hB := nextW hB hX
    clear hb hX
    go_wp2_with fail
    refine (mulRats_any a b c d p1 p2 tp HP.out _).mono ?_
    rintro e w7 ⟨rfl, hb⟩
    have hX : Below w6.heap.size w6 w7 := nextX (by go_grown) hb
    replace kxa_0 := cellB hX kxa_0
    replace kxa_1 := cellB hX kxa_1
    replace kxb_0 := cellB hX kxb_0
    replace kxb_1 := cellB hX kxb_1
    replace ks_0 := cellB hX ks_0
    replace ks_1 := cellB hX ks_1
    replace kS_0 := cellB hX kS_0
    replace kS_1 := cellB hX kS_1
    replace ke_0 := cellB hX ke_0
    replace ke_1 := cellB hX ke_1
    have kE_0 : w7.cell? ⟨w6.heap.size, 0, none⟩ = some (.int .i64 e1) := cellB hb (by simp [go_sem])
    have kE_1 : w7.cell? ⟨w6.heap.size, 1, none⟩ = some (.int .i64 e2) := cellB hb (by simp [go_sem])
    have zkE_0 := lt_of_cell kE_0
    replace zkxa_0 := Nat.lt_of_lt_of_le zkxa_0 hX.size
    replace zkxb_0 := Nat.lt_of_lt_of_le zkxb_0 hX.size
    replace zks_0 := Nat.lt_of_lt_of_le zks_0 hX.size
    replace zkS_0 := Nat.lt_of_lt_of_le zkS_0 hX.size
    replace zke_0 := Nat.lt_of_lt_of_le zke_0 hX.size
    replace hB := nextW hB hX
    clear hb hX
    go_wp2_with fail
    refine (sMul_any a b c d p1 p2 tp HP.out _).mono ?_
    rintro e w8 ⟨rfl, hb⟩
    have hX : Below w7.heap.size w7 w8 := nextX (by go_grown) hb
    replace kxa_0 := cellB hX kxa_0
    replace kxa_1 := cellB hX kxa_1
    replace kxb_0 := cellB hX kxb_0
    replace kxb_1 := cellB hX kxb_1
    replace ks_0 := cellB hX ks_0
    replace ks_1 := cellB hX ks_1
    replace kS_0 := cellB hX kS_0
    replace kS_1 := cellB hX kS_1
    replace ke_0 := cellB hX ke_0
    replace ke_1 := cellB hX ke_1
    replace kE_0 := cellB hX kE_0
    replace kE_1 := cellB hX kE_1
    have kp_0 : w8.cell? ⟨w7.heap.size, 0, none⟩ = some (.int .i64 p1) := cellB hb (by simp [go_sem])
    have kp_1 : w8.cell? ⟨w7.heap.size, 1, none⟩ = some (.int .i64 p2) := cellB hb (by simp [go_sem])
    have zkp_0 := lt_of_cell kp_0
    replace zkxa_0 := Nat.lt_of_lt_of_le zkxa_0 hX.size
    replace zkxb_0 := Nat.lt_of_lt_of_le zkxb_0 hX.size
    replace zks_0 := Nat.lt_of_lt_of_le zks_0 hX.size
    replace zkS_0 := Nat.lt_of_lt_of_le zkS_0 hX.size
    replace zke_0 := Nat.lt_of_lt_of_le zke_0 hX.size
    replace zkE_0 := Nat.lt_of_lt_of_le zkE_0 hX.size
    replace hB := nextW hB hX
    clear hb hX
    go_wp2_with fail
    refine (divRats_any a b c d q1 q2 tq HQ.out _).mono ?_
    rintro e w9 ⟨rfl, hb⟩
    have hX : Below w8.heap.size w8 w9 := nextX (by go_grown) hb
    replace kxa_0 := cellB hX kxa_0
    replace kxa_1 := cellB hX kxa_1
    replace kxb_0 := cellB hX kxb_0
    replace kxb_1 := cellB hX kxb_1
    replace ks_0 := cellB hX ks_0
    replace ks_1 := cellB hX ks_1
    replace kS_0 := cellB hX kS_0
    replace kS_1 := cellB hX kS_1
    replace ke_0 := cellB hX ke_0
    replace ke_1 := cellB hX ke_1
    replace kE_0 := cellB hX kE_0
    replace kE_1 := cellB hX kE_1
    replace kp_0 := cellB hX kp_0
    replace kp_1 := cellB hX kp_1
    have kP_0 : w9.cell? ⟨w8.heap.size, 0, none⟩ = some (.int .i64 p1) := cellB hb (by simp [go_sem])
    have kP_1 : w9.cell? ⟨w8.heap.size, 1, none⟩ = some (.int .i64 p2) := cellB hb (by simp [go_sem])
    have zkP_0 := lt_of_cell kP_0
    replace zkxa_0 := Nat.lt_of_lt_of_le zkxa_0 hX.size
    replace zkxb_0 := Nat.lt_of_lt_of_le zkxb_0 hX.size
    replace zks_0 := Nat.lt_of_lt_of_le zks_0 hX.size
    replace zkS_0 := Nat.lt_of_lt_of_le zkS_0 hX.size
    replace zke_0 := Nat.lt_of_lt_of_le zke_0 hX.size
    replace zkE_0 := Nat.lt_of_lt_of_le zkE_0 hX.size
    replace zkp_0 := Nat.lt_of_lt_of_le zkp_0 hX.size
    replace hB := nextW hB hX
    clear hb hX
    go_wp2_with fail
    refine (sDiv_any a b c d q1 q2 tq HQ.out _).mono ?_
    rintro e w10 ⟨rfl, hb⟩
    have hX : Below w9.heap.size w9 w10 := nextX (by go_grown) hb
    replace kxa_0 := cellB hX kxa_0
    replace kxa_1 := cellB hX kxa_1
    replace kxb_0 := cellB hX kxb_0
    replace kxb_1 := cellB hX kxb_1
    replace ks_0 := cellB hX ks_0
    replace ks_1 := cellB hX ks_1
    replace kS_0 := cellB hX kS_0
    replace kS_1 := cellB hX kS_1
    replace ke_0 := cellB hX ke_0
    replace ke_1 := cellB hX ke_1
    replace kE_0 := cellB hX kE_0
    replace kE_1 := cellB hX kE_1
    replace kp_0 := cellB hX kp_0
    replace kp_1 := cellB hX kp_1
    replace kP_0 := cellB hX kP_0
    replace kP_1 := cellB hX kP_1
    have kq_0 : w10.cell? ⟨w9.heap.size, 0, none⟩ = some (.int .i64 q1) := cellB hb (by simp [go_sem])
    have kq_1 : w10.cell? ⟨w9.heap.size, 1, none⟩ = some (.int .i64 q2) := cellB hb (by simp [go_sem])
    have zkq_0 := lt_of_cell kq_0
    replace zkxa_0 := Nat.lt_of_lt_of_le zkxa_0 hX.size
    replace zkxb_0 := Nat.lt_of_lt_of_le zkxb_0 hX.size
    replace zks_0 := Nat.lt_of_lt_of_le zks_0 hX.size
    replace zkS_0 := Nat.lt_of_lt_of_le zkS_0 hX.size
    replace zke_0 := Nat.lt_of_lt_of_le zke_0 hX.size
    replace zkE_0 := Nat.lt_of_lt_of_le zkE_0 hX.size
    replace zkp_0 := Nat.lt_of_lt_of_le zkp_0 hX.size
    replace zkP_0 := Nat.lt_of_lt_of_le zkP_0 hX.size
    replace hB := nextW hB hX
    clear hb hX
    go_wp2_with fail
    refine (iCmp_any a b c d o tc HC.out _).mono ?_
    rintro e w11 ⟨rfl, hb⟩
    have hX : Below w10.heap.size w10 w11 := nextX (by go_grown) hb
    replace kxa_0 := cellB hX kxa_0
    replace kxa_1 := cellB hX kxa_1
    replace kxb_0 := cellB hX kxb_0
    replace kxb_1 := cellB hX kxb_1
    replace ks_0 := cellB hX ks_0
    replace ks_1 := cellB hX ks_1
    replace kS_0 := cellB hX kS_0
    replace kS_1 := cellB hX kS_1
    replace ke_0 := cellB hX ke_0
    replace ke_1 := cellB hX ke_1
    replace kE_0 := cellB hX kE_0
    replace kE_1 := cellB hX kE_1
    replace kp_0 := cellB hX kp_0
    replace kp_1 := cellB hX kp_1
    replace kP_0 := cellB hX kP_0
    replace kP_1 := cellB hX kP_1
    replace kq_0 := cellB hX kq_0
    replace kq_1 := cellB hX kq_1
    have kQ_0 : w11.cell? ⟨w10.heap.size, 0, none⟩ = some (.int .i64 q1) := cellB hb (by simp [go_sem])
    have kQ_1 : w11.cell? ⟨w10.heap.size, 1, none⟩ = some (.int .i64 q2) := cellB hb (by simp [go_sem])
    have zkQ_0 := lt_of_cell kQ_0
    replace zkxa_0 := Nat.lt_of_lt_of_le zkxa_0 hX.size
    replace zkxb_0 := Nat.lt_of_lt_of_le zkxb_0 hX.size
    replace zks_0 := Nat.lt_of_lt_of_le zks_0 hX.size
    replace zkS_0 := Nat.lt_of_lt_of_le zkS_0 hX.size
    replace zke_0 := Nat.lt_of_lt_of_le zke_0 hX.size
    replace zkE_0 := Nat.lt_of_lt_of_le zkE_0 hX.size
    replace zkp_0 := Nat.lt_of_lt_of_le zkp_0 hX.size
    replace zkP_0 := Nat.lt_of_lt_of_le zkP_0 hX.size
    replace zkq_0 := Nat.lt_of_lt_of_le zkq_0 hX.size
    replace hB := nextW hB hX
    clear hb hX
    go_wp2_with fail
    refine (sCmp_any a b c d o tc HC.out _).mono ?_
    rintro e w12 ⟨rfl, hb⟩
    have hX : Below w11.heap.size w11 w12 := nextX (by go_grown) hb
    replace kxa_0 := cellB hX kxa_0
    replace kxa_1 := cellB hX kxa_1
    replace kxb_0 := cellB hX kxb_0
    replace kxb_1 := cellB hX kxb_1
    replace ks_0 := cellB hX ks_0
    replace ks_1 := cellB hX ks_1
    replace kS_0 := cellB hX kS_0
    replace kS_1 := cellB hX kS_1
    replace ke_0 := cellB hX ke_0
    replace ke_1 := cellB hX ke_1
    replace kE_0 := cellB hX kE_0
    replace kE_1 := cellB hX kE_1
    replace kp_0 := cellB hX kp_0
    replace kp_1 := cellB hX kp_1
    replace kP_0 := cellB hX kP_0
    replace kP_1 := cellB hX kP_1
    replace kq_0 := cellB hX kq_0
    replace kq_1 := cellB hX kq_1
    replace kQ_0 := cellB hX kQ_0
    replace kQ_1 := cellB hX kQ_1
    replace zkxa_0 := Nat.lt_of_lt_of_le zkxa_0 hX.size
    replace zkxb_0 := Nat.lt_of_lt_of_le zkxb_0 hX.size
    replace zks_0 := Nat.lt_of_lt_of_le zks_0 hX.size
    replace zkS_0 := Nat.lt_of_lt_of_le zkS_0 hX.size
    replace zke_0 := Nat.lt_of_lt_of_le zke_0 hX.size
    replace zkE_0 := Nat.lt_of_lt_of_le zkE_0 hX.size
    replace zkp_0 := Nat.lt_of_lt_of_le zkp_0 hX.size
    replace zkP_0 := Nat.lt_of_lt_of_le zkP_0 hX.size
    replace zkq_0 := Nat.lt_of_lt_of_le zkq_0 hX.size
    replace zkQ_0 := Nat.lt_of_lt_of_le zkQ_0 hX.size
    replace hB := nextW hB hX
    clear hb hX
    go_upto_if 155 with fail
    clear ke_0 ke_1 zke_0 kp_0 kp_1 zkp_0 kP_0 kP_1 zkP_0 kQ_0 kQ_1 zkQ_0
    go_cut [] (fun wx => Below w12.heap.size w12 wx)
    case first => as_aux_lemma =>
      have hC : Below w12.heap.size w12 w12 := Below.refl _ _
      rcases ts with _ | _
      · go_wp2_with fail
        go_meet
        exact hC
      · obtain ⟨u1, u2, u3⟩ := sum_back HS.out
        go_wp2_with fail
        refine (subRats_any s1 s2 c d a b true HI.out.2.1 u1 _).mono ?_
        rintro e w13 ⟨rfl, hb⟩
        have hX : Below w12.heap.size w12 w13 := nextX (by go_grown) hb
        replace kxa_0 := cellB hX kxa_0
        replace kxa_1 := cellB hX kxa_1
        replace kxb_0 := cellB hX kxb_0
        replace kxb_1 := cellB hX kxb_1
        replace ks_0 := cellB hX ks_0
        replace ks_1 := cellB hX ks_1
        replace kS_0 := cellB hX kS_0
        replace kS_1 := cellB hX kS_1
        replace kE_0 := cellB hX kE_0
        replace kE_1 := cellB hX kE_1
        replace kq_0 := cellB hX kq_0
        replace kq_1 := cellB hX kq_1
        replace zkxa_0 := Nat.lt_of_lt_of_le zkxa_0 hX.size
        replace zkxb_0 := Nat.lt_of_lt_of_le zkxb_0 hX.size
        replace zks_0 := Nat.lt_of_lt_of_le zks_0 hX.size
        replace zkS_0 := Nat.lt_of_lt_of_le zkS_0 hX.size
        replace zkE_0 := Nat.lt_of_lt_of_le zkE_0 hX.size
        replace zkq_0 := Nat.lt_of_lt_of_le zkq_0 hX.size
        replace hC := nextW hC hX
        clear hb hX
        go_wp2_with fail
        refine (addRats_any c d a b s1 s2 true u2 _).mono ?_
        rintro e w14 ⟨rfl, hb⟩
        have hX : Below w13.heap.size w13 w14 := nextX (by go_grown) hb
        replace kxa_0 := cellB hX kxa_0
        replace kxa_1 := cellB hX kxa_1
        replace kxb_0 := cellB hX kxb_0
        replace kxb_1 := cellB hX kxb_1
        replace ks_0 := cellB hX ks_0
        replace ks_1 := cellB hX ks_1
        replace kS_0 := cellB hX kS_0
        replace kS_1 := cellB hX kS_1
        replace kE_0 := cellB hX kE_0
        replace kE_1 := cellB hX kE_1
        replace kq_0 := cellB hX kq_0
        replace kq_1 := cellB hX kq_1
        have kz_0 : w14.cell? ⟨w13.heap.size, 0, none⟩ = some (.int .i64 a) := cellB hb (by simp [go_sem])
        have kz_1 : w14.cell? ⟨w13.heap.size, 1, none⟩ = some (.int .i64 b) := cellB hb (by simp [go_sem])
        have zkz_0 := lt_of_cell kz_0
        replace zkxa_0 := Nat.lt_of_lt_of_le zkxa_0 hX.size
        replace zkxb_0 := Nat.lt_of_lt_of_le zkxb_0 hX.size
        replace zks_0 := Nat.lt_of_lt_of_le zks_0 hX.size
        replace zkS_0 := Nat.lt_of_lt_of_le zkS_0 hX.size
        replace zkE_0 := Nat.lt_of_lt_of_le zkE_0 hX.size
        replace zkq_0 := Nat.lt_of_lt_of_le zkq_0 hX.size
        replace hC := nextW hC hX
        clear hb hX
        go_wp2_with fail
        refine (implIsRat_any s1 s2 _).mono ?_
        rintro e w15 ⟨he, hb⟩
        rw [u3] at he
        subst he
        have hX : Below w14.heap.size w14 w15 := nextX (by go_grown) hb
        replace kxa_0 := cellB hX kxa_0
        replace kxa_1 := cellB hX kxa_1
        replace kxb_0 := cellB hX kxb_0
        replace kxb_1 := cellB hX kxb_1
        replace ks_0 := cellB hX ks_0
        replace ks_1 := cellB hX ks_1
        replace kS_0 := cellB hX kS_0
        replace kS_1 := cellB hX kS_1
        replace kE_0 := cellB hX kE_0
        replace kE_1 := cellB hX kE_1
        replace kq_0 := cellB hX kq_0
        replace kq_1 := cellB hX kq_1
        replace kz_0 := cellB hX kz_0
        replace kz_1 := cellB hX kz_1
        have ky_0 : w15.cell? ⟨w14.heap.size, 0, none⟩ = some (.int .i64 s1) := cellB hb (by simp [go_sem])
        have ky_1 : w15.cell? ⟨w14.heap.size, 1, none⟩ = some (.int .i64 s2) := cellB hb (by simp [go_sem])
        have zky_0 := lt_of_cell ky_0
        replace zkxa_0 := Nat.lt_of_lt_of_le zkxa_0 hX.size
        replace zkxb_0 := Nat.lt_of_lt_of_le zkxb_0 hX.size
        replace zks_0 := Nat.lt_of_lt_of_le zks_0 hX.size
        replace zkS_0 := Nat.lt_of_lt_of_le zkS_0 hX.size
        replace zkE_0 := Nat.lt_of_lt_of_le zkE_0 hX.size
        replace zkq_0 := Nat.lt_of_lt_of_le zkq_0 hX.size
        replace zkz_0 := Nat.lt_of_lt_of_le zkz_0 hX.size
        replace hC := nextW hC hX
        clear hb hX
        go_wp2_with fail
        go_meet
        exact nextX hC (by go_grown)
    case rest => as_aux_lemma =>
      have hX := hcut
      obtain ⟨w16, hwc⟩ : ∃ X : World, X = wc := ⟨_, rfl⟩
      subst hwc
      replace kxa_0 := cellB hX kxa_0
      replace kxa_1 := cellB hX kxa_1
      replace kxb_0 := cellB hX kxb_0
      replace kxb_1 := cellB hX kxb_1
      replace zkxa_0 := Nat.lt_of_lt_of_le zkxa_0 hX.size
      replace zkxb_0 := Nat.lt_of_lt_of_le zkxb_0 hX.size
      replace ks_0 := cellB hX ks_0
      replace ks_1 := cellB hX ks_1
      replace zks_0 := Nat.lt_of_lt_of_le zks_0 hX.size
      replace kS_0 := cellB hX kS_0
      replace kS_1 := cellB hX kS_1
      replace zkS_0 := Nat.lt_of_lt_of_le zkS_0 hX.size
      replace kE_0 := cellB hX kE_0
      replace kE_1 := cellB hX kE_1
      replace zkE_0 := Nat.lt_of_lt_of_le zkE_0 hX.size
      replace kq_0 := cellB hX kq_0
      replace kq_1 := cellB hX kq_1
      replace zkq_0 := Nat.lt_of_lt_of_le zkq_0 hX.size
      replace hB := nextW hB hX
      clear hX hcut
      clear ks_0 ks_1 zks_0 kS_0 kS_1 zkS_0
      go_upto_if 189 with fail
      go_cut [] (fun wx => Below w16.heap.size w16 wx)
      case first => as_aux_lemma =>
        have hC : Below w16.heap.size w16 w16 := Below.refl _ _
        rcases tq with _ | _
        · go_wp2_with fail
          go_meet
          exact hC
        · have u1 := quo_back HQ.out
          go_wp2_with fail
          refine (mulRats_any q1 q2 c d a b true u1 _).mono ?_
          rintro e w17 ⟨rfl, hb⟩
          have hX : Below w16.heap.size w16 w17 := nextX (by go_grown) hb
          replace kxa_0 := cellB hX kxa_0
          replace kxa_1 := cellB hX kxa_1
          replace kxb_0 := cellB hX kxb_0
          replace kxb_1 := cellB hX kxb_1
          replace kE_0 := cellB hX kE_0
          replace kE_1 := cellB hX kE_1
          replace kq_0 := cellB hX kq_0
          replace kq_1 := cellB hX kq_1
          replace zkxa_0 := Nat.lt_of_lt_of_le zkxa_0 hX.size
          replace zkxb_0 := Nat.lt_of_lt_of_le zkxb_0 hX.size
          replace zkE_0 := Nat.lt_of_lt_of_le zkE_0 hX.size
          replace zkq_0 := Nat.lt_of_lt_of_le zkq_0 hX.size
          replace hC := nextW hC hX
          clear hb hX
          go_wp2_with fail
          go_meet
          exact nextX hC (by go_grown)
      case rest => as_aux_lemma =>
        have hX := hcut
        obtain ⟨w18, hwc⟩ : ∃ X : World, X = wc := ⟨_, rfl⟩
        subst hwc
        replace kxa_0 := cellB hX kxa_0
        replace kxa_1 := cellB hX kxa_1
        replace kxb_0 := cellB hX kxb_0
        replace kxb_1 := cellB hX kxb_1
        replace zkxa_0 := Nat.lt_of_lt_of_le zkxa_0 hX.size
        replace zkxb_0 := Nat.lt_of_lt_of_le zkxb_0 hX.size
        replace kE_0 := cellB hX kE_0
        replace kE_1 := cellB hX kE_1
        replace zkE_0 := Nat.lt_of_lt_of_le zkE_0 hX.size
        replace kq_0 := cellB hX kq_0
        replace kq_1 := cellB hX kq_1
        replace zkq_0 := Nat.lt_of_lt_of_le zkq_0 hX.size
        replace hB := nextW hB hX
        clear hX hcut
        clear kq_0 kq_1 zkq_0
        go_upto_region 25 with fail
        go_cut [222] (fun s wx => s = .bool false ∧ Below w18.heap.size w18 wx)
        case first =>
          rcases te with _ | _
          · go_wp2_with fail
            go_meet
            exact ⟨rfl, Below.refl _ _⟩
          · have u1 := diff_sign HE.out
            have u2 := cmpR_of (ok_of_sub HE.out).1 (ok_of_sub HE.out).2
            have ho : cmpQ a b c d = o := (Prod.mk.inj (u2.symm.trans HC.out)).1
            rw [ho] at u1
            have v1 : decide (0 < e1) = decide (0 < o) := by rw [decide_eq_decide]; exact u1.1
            have v2 : (e1 == 0) = (o == 0) := by rw [Bool.eq_iff_iff]; simpa using u1.2
            clear ho u2
            go_wp2_with fail
            go_meet
            exact ⟨by simp, Below.refl _ _⟩
        case rest => as_aux_lemma =>
          obtain ⟨rfl, hX⟩ := hcut
          obtain ⟨w19, hwc⟩ : ∃ X : World, X = wc := ⟨_, rfl⟩
          subst hwc
          replace kxa_0 := cellB hX kxa_0
          replace kxa_1 := cellB hX kxa_1
          replace kxb_0 := cellB hX kxb_0
          replace kxb_1 := cellB hX kxb_1
          replace zkxa_0 := Nat.lt_of_lt_of_le zkxa_0 hX.size
          replace zkxb_0 := Nat.lt_of_lt_of_le zkxb_0 hX.size
          replace kE_0 := cellB hX kE_0
          replace kE_1 := cellB hX kE_1
          replace zkE_0 := Nat.lt_of_lt_of_le zkE_0 hX.size
          replace hB := nextW hB hX
          clear hX
          clear kE_0 kE_1 zkE_0
          go_upto_if 223 with fail
          go_cut [] (fun wx => Below w19.heap.size w19 wx)
          case first => as_aux_lemma =>
            have hC : Below w19.heap.size w19 w19 := Below.refl _ _
            rcases tc with _ | _
            · go_wp2_with fail
              go_meet
              exact hC
            · have u1 := cmpR_swap HC.out
              have u2 : -1 ≤ o ∧ o ≤ 1 := by
                have h := HC.out
                unfold cmpR at h
                split at h
                · have := cmpQ_abs a b c d; have := (Prod.mk.inj h).1; omega
                · simp at h
              have v1 : IntKind.i64.wrap (-o) = -o := IntWalk.i64_in _ (by omega)
              go_wp2_with fail
              refine (iCmp_any c d a b (-o) true u1 _).mono ?_
              rintro e w20 ⟨rfl, hb⟩
              have hX : Below w19.heap.size w19 w20 := nextX (by go_grown) hb
              replace kxa_0 := cellB hX kxa_0
              replace kxa_1 := cellB hX kxa_1
              replace kxb_0 := cellB hX kxb_0
              replace kxb_1 := cellB hX kxb_1
              replace zkxa_0 := Nat.lt_of_lt_of_le zkxa_0 hX.size
              replace zkxb_0 := Nat.lt_of_lt_of_le zkxb_0 hX.size
              replace hC := nextW hC hX
              clear hb hX
              go_wp2_with fail
              go_meet
              exact nextX hC (by go_grown)
          case rest => as_aux_lemma =>
            have hX := hcut
            obtain ⟨w21, hwc⟩ : ∃ X : World, X = wc := ⟨_, rfl⟩
            subst hwc
            replace kxa_0 := cellB hX kxa_0
            replace kxa_1 := cellB hX kxa_1
            replace kxb_0 := cellB hX kxb_0
            replace kxb_1 := cellB hX kxb_1
            replace zkxa_0 := Nat.lt_of_lt_of_le zkxa_0 hX.size
            replace zkxb_0 := Nat.lt_of_lt_of_le zkxb_0 hX.size
            replace hB := nextW hB hX
            clear hX hcut
            go_wp2_with fail
            refine (midRats_any a b c d m1 m2 tm HM.out _).mono ?_
            rintro e w22 ⟨rfl, hb⟩
            have hX : Below w21.heap.size w21 w22 := nextX (by go_grown) hb
            replace kxa_0 := cellB hX kxa_0
            replace kxa_1 := cellB hX kxa_1
            replace kxb_0 := cellB hX kxb_0
            replace kxb_1 := cellB hX kxb_1
            replace zkxa_0 := Nat.lt_of_lt_of_le zkxa_0 hX.size
            replace zkxb_0 := Nat.lt_of_lt_of_le zkxb_0 hX.size
            replace hB := nextW hB hX
            clear hb hX
            go_wp2_with fail
            refine (sMid_any a b c d m1 m2 tm HM.out _).mono ?_
            rintro e w23 ⟨rfl, hb⟩
            have hX : Below w22.heap.size w22 w23 := nextX (by go_grown) hb
            replace kxa_0 := cellB hX kxa_0
            replace kxa_1 := cellB hX kxa_1
            replace kxb_0 := cellB hX kxb_0
            replace kxb_1 := cellB hX kxb_1
            have km_0 : w23.cell? ⟨w22.heap.size, 0, none⟩ = some (.int .i64 m1) := cellB hb (by simp [go_sem])
            have km_1 : w23.cell? ⟨w22.heap.size, 1, none⟩ = some (.int .i64 m2) := cellB hb (by simp [go_sem])
            have zkm_0 := lt_of_cell km_0
            replace zkxa_0 := Nat.lt_of_lt_of_le zkxa_0 hX.size
            replace zkxb_0 := Nat.lt_of_lt_of_le zkxb_0 hX.size
            replace hB := nextW hB hX
            clear hb hX
            rcases tm with _ | _
            · go_wp2_with fail
              go_ret
              exact ⟨rfl, nextX hB (by go_grown)⟩
            · obtain ⟨⟨k1, k2, k3⟩, k4, k5⟩ := mid_between HM.out
              have SM := Lib.hid (Sm.of_ok k1)
              have SA := Lib.hid (Sm.of_ok k2)
              have SB := Lib.hid (Sm.of_ok k3)
              clear k1 k2 k3
              rcases l1 : lessQ m1 m2 a b with _ | _
              · go_wp2_with fail
                refine (pLess_is m1 m2 a b SM.out SA.out _).mono ?_
                rintro e w24 ⟨he, hb⟩
                rw [l1] at he
                subst he
                have hX : Below w23.heap.size w23 w24 := nextX (by go_grown) hb
                replace kxa_0 := cellB hX kxa_0
                replace kxa_1 := cellB hX kxa_1
                replace kxb_0 := cellB hX kxb_0
                replace kxb_1 := cellB hX kxb_1
                replace km_0 := cellB hX km_0
                replace km_1 := cellB hX km_1
                have kM_0 : w24.cell? ⟨w23.heap.size, 0, none⟩ = some (.int .i64 m1) := cellB hb (by simp [go_sem])
                have kM_1 : w24.cell? ⟨w23.heap.size, 1, none⟩ = some (.int .i64 m2) := cellB hb (by simp [go_sem])
                have zkM_0 := lt_of_cell kM_0
                replace zkxa_0 := Nat.lt_of_lt_of_le zkxa_0 hX.size
                replace zkxb_0 := Nat.lt_of_lt_of_le zkxb_0 hX.size
                replace zkm_0 := Nat.lt_of_lt_of_le zkm_0 hX.size
                replace hB := nextW hB hX
                clear hb hX
                rcases l3 : lessQ a b m1 m2 with _ | _
                · go_wp2_with fail
                  refine (pLess_is a b m1 m2 SA.out SM.out _).mono ?_
                  rintro e w25 ⟨he, hb⟩
                  rw [l3] at he
                  subst he
                  have hX : Below w24.heap.size w24 w25 := nextX (by go_grown) hb
                  replace kxa_0 := cellB hX kxa_0
                  replace kxa_1 := cellB hX kxa_1
                  replace kxb_0 := cellB hX kxb_0
                  replace kxb_1 := cellB hX kxb_1
                  replace km_0 := cellB hX km_0
                  replace km_1 := cellB hX km_1
                  replace kM_0 := cellB hX kM_0
                  replace kM_1 := cellB hX kM_1
                  replace zkxa_0 := Nat.lt_of_lt_of_le zkxa_0 hX.size
                  replace zkxb_0 := Nat.lt_of_lt_of_le zkxb_0 hX.size
                  replace zkm_0 := Nat.lt_of_lt_of_le zkm_0 hX.size
                  replace zkM_0 := Nat.lt_of_lt_of_le zkM_0 hX.size
                  replace hB := nextW hB hX
                  clear hb hX
                  go_wp2_with fail
                  go_ret
                  exact ⟨rfl, nextX hB (by go_grown)⟩
                · have l4 : lessQ c d m1 m2 = false := by simpa [l3] using k5
                  go_wp2_with fail
                  refine (pLess_is a b m1 m2 SA.out SM.out _).mono ?_
                  rintro e w25 ⟨he, hb⟩
                  rw [l3] at he
                  subst he
                  have hX : Below w24.heap.size w24 w25 := nextX (by go_grown) hb
                  replace kxa_0 := cellB hX kxa_0
                  replace kxa_1 := cellB hX kxa_1
                  replace kxb_0 := cellB hX kxb_0
                  replace kxb_1 := cellB hX kxb_1
                  replace km_0 := cellB hX km_0
                  replace km_1 := cellB hX km_1
                  replace kM_0 := cellB hX kM_0
                  replace kM_1 := cellB hX kM_1
                  replace zkxa_0 := Nat.lt_of_lt_of_le zkxa_0 hX.size
                  replace zkxb_0 := Nat.lt_of_lt_of_le zkxb_0 hX.size
                  replace zkm_0 := Nat.lt_of_lt_of_le zkm_0 hX.size
                  replace zkM_0 := Nat.lt_of_lt_of_le zkM_0 hX.size
                  replace hB := nextW hB hX
                  clear hb hX
                  go_wp2_with fail
                  refine (pLess_is c d m1 m2 SB.out SM.out _).mono ?_
                  rintro e w26 ⟨he, hb⟩
                  rw [l4] at he
                  subst he
                  have hX : Below w25.heap.size w25 w26 := nextX (by go_grown) hb
                  replace kxa_0 := cellB hX kxa_0
                  replace kxa_1 := cellB hX kxa_1
                  replace kxb_0 := cellB hX kxb_0
                  replace kxb_1 := cellB hX kxb_1
                  replace km_0 := cellB hX km_0
                  replace km_1 := cellB hX km_1
                  replace kM_0 := cellB hX kM_0
                  replace kM_1 := cellB hX kM_1
                  replace zkxa_0 := Nat.lt_of_lt_of_le zkxa_0 hX.size
                  replace zkxb_0 := Nat.lt_of_lt_of_le zkxb_0 hX.size
                  replace zkm_0 := Nat.lt_of_lt_of_le zkm_0 hX.size
                  replace zkM_0 := Nat.lt_of_lt_of_le zkM_0 hX.size
                  replace hB := nextW hB hX
                  clear hb hX
                  go_wp2_with fail
                  go_ret
                  exact ⟨rfl, nextX hB (by go_grown)⟩
              · have l2 : lessQ m1 m2 c d = false := by simpa [l1] using k4
                go_wp2_with fail
                refine (pLess_is m1 m2 a b SM.out SA.out _).mono ?_
                rintro e w24 ⟨he, hb⟩
                rw [l1] at he
                subst he
                have hX : Below w23.heap.size w23 w24 := nextX (by go_grown) hb
                replace kxa_0 := cellB hX kxa_0
                replace kxa_1 := cellB hX kxa_1
                replace kxb_0 := cellB hX kxb_0
                replace kxb_1 := cellB hX kxb_1
                replace km_0 := cellB hX km_0
                replace km_1 := cellB hX km_1
                have kM_0 : w24.cell? ⟨w23.heap.size, 0, none⟩ = some (.int .i64 m1) := cellB hb (by simp [go_sem])
                have kM_1 : w24.cell? ⟨w23.heap.size, 1, none⟩ = some (.int .i64 m2) := cellB hb (by simp [go_sem])
                have zkM_0 := lt_of_cell kM_0
                replace zkxa_0 := Nat.lt_of_lt_of_le zkxa_0 hX.size
                replace zkxb_0 := Nat.lt_of_lt_of_le zkxb_0 hX.size
                replace zkm_0 := Nat.lt_of_lt_of_le zkm_0 hX.size
                replace hB := nextW hB hX
                clear hb hX
                go_wp2_with fail
                refine (pLess_is m1 m2 c d SM.out SB.out _).mono ?_
                rintro e w25 ⟨he, hb⟩
                rw [l2] at he
                subst he
                have hX : Below w24.heap.size w24 w25 := nextX (by go_grown) hb
                replace kxa_0 := cellB hX kxa_0
                replace kxa_1 := cellB hX kxa_1
                replace kxb_0 := cellB hX kxb_0
                replace kxb_1 := cellB hX kxb_1
                replace km_0 := cellB hX km_0
                replace km_1 := cellB hX km_1
                replace kM_0 := cellB hX kM_0
                replace kM_1 := cellB hX kM_1
                replace zkxa_0 := Nat.lt_of_lt_of_le zkxa_0 hX.size
                replace zkxb_0 := Nat.lt_of_lt_of_le zkxb_0 hX.size
                replace zkm_0 := Nat.lt_of_lt_of_le zkm_0 hX.size
                replace zkM_0 := Nat.lt_of_lt_of_le zkM_0 hX.size
                replace hB := nextW hB hX
                clear hb hX
                rcases l3 : lessQ a b m1 m2 with _ | _
                · go_wp2_with fail
                  refine (pLess_is a b m1 m2 SA.out SM.out _).mono ?_
                  rintro e w26 ⟨he, hb⟩
                  rw [l3] at he
                  subst he
                  have hX : Below w25.heap.size w25 w26 := nextX (by go_grown) hb
                  replace kxa_0 := cellB hX kxa_0
                  replace kxa_1 := cellB hX kxa_1
                  replace kxb_0 := cellB hX kxb_0
                  replace kxb_1 := cellB hX kxb_1
                  replace km_0 := cellB hX km_0
                  replace km_1 := cellB hX km_1
                  replace kM_0 := cellB hX kM_0
                  replace kM_1 := cellB hX kM_1
                  replace zkxa_0 := Nat.lt_of_lt_of_le zkxa_0 hX.size
                  replace zkxb_0 := Nat.lt_of_lt_of_le zkxb_0 hX.size
                  replace zkm_0 := Nat.lt_of_lt_of_le zkm_0 hX.size
                  replace zkM_0 := Nat.lt_of_lt_of_le zkM_0 hX.size
                  replace hB := nextW hB hX
                  clear hb hX
                  go_wp2_with fail
                  go_ret
                  exact ⟨rfl, nextX hB (by go_grown)⟩
                · have l4 : lessQ c d m1 m2 = false := by simpa [l3] using k5
                  go_wp2_with fail
                  refine (pLess_is a b m1 m2 SA.out SM.out _).mono ?_
                  rintro e w26 ⟨he, hb⟩
                  rw [l3] at he
                  subst he
                  have hX : Below w25.heap.size w25 w26 := nextX (by go_grown) hb
                  replace kxa_0 := cellB hX kxa_0
                  replace kxa_1 := cellB hX kxa_1
                  replace kxb_0 := cellB hX kxb_0
                  replace kxb_1 := cellB hX kxb_1
                  replace km_0 := cellB hX km_0
                  replace km_1 := cellB hX km_1
                  replace kM_0 := cellB hX kM_0
                  replace kM_1 := cellB hX kM_1
                  replace zkxa_0 := Nat.lt_of_lt_of_le zkxa_0 hX.size
                  replace zkxb_0 := Nat.lt_of_lt_of_le zkxb_0 hX.size
                  replace zkm_0 := Nat.lt_of_lt_of_le zkm_0 hX.size
                  replace zkM_0 := Nat.lt_of_lt_of_le zkM_0 hX.size
                  replace hB := nextW hB hX
                  clear hb hX
                  go_wp2_with fail
                  refine (pLess_is c d m1 m2 SB.out SM.out _).mono ?_
                  rintro e w27 ⟨he, hb⟩
                  rw [l4] at he
                  subst he
                  have hX : Below w26.heap.size w26 w27 := nextX (by go_grown) hb
                  replace kxa_0 := cellB hX kxa_0
                  replace kxa_1 := cellB hX kxa_1
                  replace kxb_0 := cellB hX kxb_0
                  replace kxb_1 := cellB hX kxb_1
                  replace km_0 := cellB hX km_0
                  replace km_1 := cellB hX km_1
                  replace kM_0 := cellB hX kM_0
                  replace kM_1 := cellB hX kM_1
                  replace zkxa_0 := Nat.lt_of_lt_of_le zkxa_0 hX.size
                  replace zkxb_0 := Nat.lt_of_lt_of_le zkxb_0 hX.size
                  replace zkm_0 := Nat.lt_of_lt_of_le zkm_0 hX.size
                  replace zkM_0 := Nat.lt_of_lt_of_le zkM_0 hX.size
                  replace hB := nextW hB hX
                  clear hb hX
                  go_wp2_with fail
                  go_ret
                  exact ⟨rfl, nextX hB (by go_grown)⟩
  · have HBg := Lib.hid hbig
    clear hbig
    go_enter Try.func3, Try.ntmps3
    go_wp2_with fail
    refine (big_is _ _ bs cs _ (HV.out.keep (by go_grown)) (HU.out.keep (by go_grown))).mono ?_
    rintro e w1 ⟨he, hb⟩
    rw [HBg.out] at he
    subst he
    have hX : Below w.heap.size w w1 := nextX (by go_grown) hb
    have hB : Below w.heap.size w w1 := hX
    clear hb hX
    go_wp2_with fail
    go_ret
    exact ⟨rfl, hB⟩

set_option maxRecDepth 100000 in
theorem lifted (os : Os) (started : os.Started) (H : Type) (enc : TypeId × Value → H) :
    ReturnsInHanded {} Try.checked os 3 .any (Rows.fnRatsSpec.pre6 enc Try.prog Try.f3 Rows.fnRatsRow.domain false) (Rows.fnRatsSpec.post enc Try.prog Try.f3 false true false false) := by
  refine returnsInHanded_of_change (C := Try.checked) Try.own started (by kernel_rfl) Try.func3
    (ChangeSpec.witness6 (enc := enc) (C := Try.checked) false ⟨#[], #[.slice none 0 0, .slice none 0 0], []⟩ 8 (by kernel_rfl) (by kernel_rfl) (by kernel_rfl) (by kernel_rfl)) ?_
  intro W base args ds gs before hval0 hW hcnd _
  have hval : ∀ (j : Nat) t v, Try.f3.params[j]? = some t → args[j]? = some v → Value.okWide Try.prog W .any base t v := hval0
  have hW' := hW
  obtain ⟨p, q, hA0, hV, rfl, hfz, hnd⟩ := hW
  have hA : DataW.TrodAll enc Try.prog W 0 (fun _ => true) true Try.f3.params.toList args.toList ds p := hA0
  rw [Try.params3] at hA hval
  obtain ⟨v0, v1, d0, d1, p0, p1, rfl, rfl, rfl, h0, h1⟩ := trodAll_two hA
  obtain ⟨bs0, hr0, hb0⟩ := open_code (hval 0 22 v0 rfl rfl) h0
  obtain ⟨bs1, hr1, hb1⟩ := open_code (hval 1 22 v1 rfl rfl) h1
  refine (walk _ _ bs0 bs1 W hr0 hr1 hb0).mono fun e W' ⟨he, hb⟩ => ?_
  subst he
  exact ⟨_, rfl, law_close Try.laidOut (by kernel_rfl) (by kernel_rfl) Try.underlying4 rfl hW' (fun h => by rfl) hb⟩

theorem proved : Rows.FnRatsSaid :=
  OpenClaim.holds_of_wide 3 Try.f3 rfl rfl rfl rfl rfl rfl rfl ⟨rfl, rfl, rfl, rfl, rfl⟩ rfl rfl rfl rfl rfl (by kernel_rfl) Try.func3 (by kernel_rfl)
    (of_decide_eq_true (by kernel_rfl)) (by unfold Func.isWrapper; first | (rw [if_pos (by decide +kernel)]; kernel_rfl) | (rw [if_neg (by decide +kernel)]; exact ⟨rfl, rfl⟩))
    (fun os started H enc _ => lifted os started H enc)

end Go.Proofs.Ytjlgnmbgopocaaa.lawFnRats
