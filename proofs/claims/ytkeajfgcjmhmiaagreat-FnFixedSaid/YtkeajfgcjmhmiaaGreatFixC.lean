/- The reference's fixed points of a map; FixedPoints of both. -/
import Derived.Test.YtkeajfgcjmhmiaaGreatFixB
import Derived.Test.YtkeajfgcjmhmiaaGreatPut
namespace Go.Proofs.YtkeajfgcjmhmiaaGreat
open Go.RowKit

def putsQ (xs l : List Q) : List Q := xs.foldl (fun l x => insQ x l) l
theorem putsQ_app (xs ys l : List Q) : putsQ (xs ++ ys) l = putsQ ys (putsQ xs l) := by unfold putsQ; rw [List.foldl_append]
theorem putsQ_ok : ∀ {xs l : List Q}, OkL xs → OkL l → OkL (putsQ xs l)
  | [], _, _, h => h
  | x :: r, _, h, k => putsQ_ok (xs := r) (fun q hq => h q (List.mem_cons_of_mem _ hq)) (insQ_ok (h x List.mem_cons_self) k)
theorem putsQ_len (xs l : List Q) : (putsQ xs l).length ≤ l.length + xs.length := foldQ_len xs l
theorem fixPc_len (s : Pt × Pt) : (fixPc s).length ≤ 3 := by
  unfold fixPc
  rw [List.length_append, List.length_append]
  repeat' split
  all_goals simp
theorem coP_ok {p : Pt} (h : CoP p) : okQ p.1.1 p.1.2 = true ∧ okQ p.2.1 p.2.2 = true := ⟨unitQ_ok (coordQ_unit h.1), unitQ_ok (coordQ_unit h.2)⟩
theorem eq_cmp {p : Pt} (h : CoP p) : p.1 = p.2 ↔ cmpQ p.2.1 p.2.2 p.1.1 p.1.2 = 0 := by
  obtain ⟨h1, h2⟩ := coP_ok h
  rw [cmpQ_eq (okQ_bd h2).1 (okQ_bd h1).1]
  exact ⟨fun e => by rw [e], fun e => toR_inj h1 h2 e.symm⟩
theorem fixPc_cmp {p q : Pt} (hp : CoP p) (hq : CoP q) : fixPc (p, q) = (if cmpQ p.2.1 p.2.2 p.1.1 p.1.2 = 0 then [p.1] else []) ++ (if cmpQ q.2.1 q.2.2 q.1.1 q.1.2 = 0 then [q.1] else []) ++ (if cmpQ p.2.1 p.2.2 p.1.1 p.1.2 * cmpQ q.2.1 q.2.2 q.1.1 q.1.2 < 0 then [((betwQ p q).1, (betwQ p q).2.1)] else []) := by
  have e1 : (p.1 = p.2) = (cmpQ p.2.1 p.2.2 p.1.1 p.1.2 = 0) := propext (eq_cmp hp)
  have e2 : (q.1 = q.2) = (cmpQ q.2.1 q.2.2 q.1.1 q.1.2 = 0) := propext (eq_cmp hq)
  have e3 : (crossF p q = true) = (cmpQ p.2.1 p.2.2 p.1.1 p.1.2 * cmpQ q.2.1 q.2.2 q.1.1 q.1.2 < 0) := by
    unfold crossF
    rw [decide_eq_true_eq, cmpQ_swap p.1.1, cmpQ_swap q.1.1, Int.neg_mul_neg]
  unfold fixPc
  simp only [e1, e2, e3]

set_option maxRecDepth 100000 in
set_option maxHeartbeats 6400000 in
theorem imFixed_is (base : Nat) (l : List Q) (v : Value) (p1 p2 p3 p4 q1 q2 q3 q4 : Int) (w : World) (h : OwQ base 31 w v l) (ho : OkL l) (hn : l.length ≤ 1000) (hbase : base ≤ w.heap.size) (hp : CoP ((p1, p2), p3, p4)) (hq : CoP ((q1, q2), q3, q4)) :
    Calls Tryz.prog 132 #[v, .agg #[.int .i64 p1, .int .i64 p2, .int .i64 p3, .int .i64 p4], .agg #[.int .i64 q1, .int .i64 q2, .int .i64 q3, .int .i64 q4]] w (PutEnd base (putsQ (fixPc (((p1, p2), p3, p4), ((q1, q2), q3, q4))) l) w) := by
  have hpc := fixPc_cmp hp hq
  have hcr := betw_is hp hq
  have hcc : crossF ((p1, p2), p3, p4) ((q1, q2), q3, q4) = decide (cmpQ p3 p4 p1 p2 * cmpQ q3 q4 q1 q2 < 0) := by
    unfold crossF
    simp only
    rw [cmpQ_swap p3 p4 p1 p2, cmpQ_swap q3 q4 q1 q2, Int.neg_mul_neg]
  obtain ⟨op1, op2⟩ := coP_ok hp
  obtain ⟨oq1, oq2⟩ := coP_ok hq
  simp only at hpc op1 op2 oq1 oq2
  obtain ⟨⟨x1, x2, xt⟩, hx⟩ : ∃ x, betwQ ((p1, p2), p3, p4) ((q1, q2), q3, q4) = x := ⟨_, rfl⟩
  obtain ⟨u, hu⟩ : ∃ u, cmpQ p3 p4 p1 p2 = u := ⟨_, rfl⟩
  obtain ⟨y, hy⟩ : ∃ y, cmpQ q3 q4 q1 q2 = y := ⟨_, rfl⟩
  have hu3 := cmpQ_abs p3 p4 p1 p2
  have hy3 := cmpQ_abs q3 q4 q1 q2
  have HO := Lib.hid h
  have SP := Lib.hid (And.intro (Sm.of_ok op1) (Sm.of_ok op2))
  have SQ := Lib.hid (And.intro (Sm.of_ok oq1) (Sm.of_ok oq2))
  have HU := Lib.hid (fun W => raCmp_is p3 p4 p1 p2 u (Sm.of_ok op2) (Sm.of_ok op1) hu W)
  have HY := Lib.hid (fun W => raCmp_is q3 q4 q1 q2 y (Sm.of_ok oq2) (Sm.of_ok oq1) hy W)
  rw [hx, hu, hy] at hpc
  rw [hu] at hu3 hcc
  rw [hy] at hy3 hcc
  have HPC := Lib.hid hpc
  have OP := Lib.hid op1
  have OQ := Lib.hid oq1
  have HOk := Lib.hid ho
  have HCC := Lib.hid hcc
  have HCR := Lib.hid hcr
  have HX := Lib.hid hx
  clear h ho hp hq hpc hu hy hx op1 op2 oq1 oq2 hcc hcr
  go_enter Tryz.func132, Tryz.ntmps132
  go_wp2_with fail
  go_name_world W hW
  have kL : Facts [(w.heap.size, 0, Value.int .i64 p1), (w.heap.size, 1, Value.int .i64 p2), (w.heap.size, 2, Value.int .i64 p3), (w.heap.size, 3, Value.int .i64 p4), (w.heap.size + 1, 0, Value.int .i64 q1), (w.heap.size + 1, 1, Value.int .i64 q2), (w.heap.size + 1, 2, Value.int .i64 q3), (w.heap.size + 1, 3, Value.int .i64 q4)] W := by rw [← hW]; simp [Facts, go_sem]
  have hB : Below w.heap.size w W := by rw [← hW]; go_grown
  have hz0 : w.heap.size ≤ W.heap.size := hB.size
  replace HO := Lib.hid (HO.out.keep hB)
  have HKL := Lib.hid kL
  clear hW
  go_region_held3 (fun w' => w'.cell? ⟨w.heap.size, 0, none⟩ = some (.int .i64 p1) ∧ w'.cell? ⟨w.heap.size, 1, none⟩ = some (.int .i64 p2) ∧ w'.cell? ⟨w.heap.size, 2, none⟩ = some (.int .i64 p3) ∧ w'.cell? ⟨w.heap.size, 3, none⟩ = some (.int .i64 p4) ∧ w'.cell? ⟨w.heap.size + 1, 0, none⟩ = some (.int .i64 q1) ∧ w'.cell? ⟨w.heap.size + 1, 1, none⟩ = some (.int .i64 q2) ∧ w'.cell? ⟨w.heap.size + 1, 2, none⟩ = some (.int .i64 q3) ∧ w'.cell? ⟨w.heap.size + 1, 3, none⟩ = some (.int .i64 q4))
    ((refine Facts.keep kL ?_; go_grown; done))
    ((first
      | (go_at_call 96; (with_reducible refine (HU.out _).mono ?_); rintro e v1 ⟨rfl, hb1⟩; have hX3 : Below W.heap.size W v1 := nextX (by go_grown) hb1; have hz3 := hX3.size)
      | (go_at_call 96; (with_reducible refine (HY.out _).mono ?_); rintro e v2 ⟨rfl, hb2⟩; have hX4 : Below W.heap.size W v2 := nextX hX3 (nextX (by go_grown) hb2); have hz4 := hX4.size)))
  replace HKL := Lib.hid (HKL.out.keep hX4)
  replace HO := Lib.hid (HO.out.keep hX4)
  replace hB := nextW hB hX4
  clear hX3 hX4 hb1
  obtain ⟨c10, c11, c12, c13, c20, c21, c22, c23⟩ := (HKL.out : Facts [(w.heap.size, 0, Value.int .i64 p1), (w.heap.size, 1, Value.int .i64 p2), (w.heap.size, 2, Value.int .i64 p3), (w.heap.size, 3, Value.int .i64 p4), (w.heap.size + 1, 0, Value.int .i64 q1), (w.heap.size + 1, 1, Value.int .i64 q2), (w.heap.size + 1, 2, Value.int .i64 q3), (w.heap.size + 1, 3, Value.int .i64 q4)] v2)
  have hzv : w.heap.size ≤ v2.heap.size := hB.size
  have zc10 := lt_of_cell c10
  have zc20 := lt_of_cell c20
  rcases hu3 with rfl | rfl | rfl <;> rcases hy3 with rfl | rfl | rfl
  · have HE := Lib.hid (show fixPc (((p1, p2), p3, p4), ((q1, q2), q3, q4)) = [] from by rw [HPC.out]; simp)
    go_wp2_with fail
    go_ret
    exact ⟨_, rfl, by rw [HE.out]; exact HO.out, hB⟩
  · go_wp2_with fail
    refine (imPut_is base (l) _ q1 q2 _ (HO.out.keep (by go_grown)) (HOk.out) OQ.out (by omega) (by go_size)).mono ?_
    rintro e w3 ⟨r3, rfl, ow, hb⟩
    have hX : Below v2.heap.size v2 w3 := nextX (by go_grown) hb
    replace c10 := cellB hX c10
    replace c11 := cellB hX c11
    replace c12 := cellB hX c12
    replace c13 := cellB hX c13
    replace c20 := cellB hX c20
    replace c21 := cellB hX c21
    replace c22 := cellB hX c22
    replace c23 := cellB hX c23
    have zc10 := Nat.lt_of_lt_of_le zc10 hX.size
    have zc20 := Nat.lt_of_lt_of_le zc20 hX.size
    replace hB := nextW hB hX
    replace HO := Lib.hid ow
    have hz3 := hB.size
    clear ow hb hX
    have hl3 := insQ_len (q1, q2) (l)
    have HE := Lib.hid (show fixPc (((p1, p2), p3, p4), ((q1, q2), q3, q4)) = [(q1, q2)] from by rw [HPC.out]; simp)
    go_wp2_with fail
    go_ret
    exact ⟨_, rfl, by rw [HE.out]; exact HO.out, hB⟩
  · have hcf : crossF ((p1, p2), p3, p4) ((q1, q2), q3, q4) = true := by rw [HCC.out]; decide
    obtain ⟨a1, a2, b1, b2, t1, t2, f1, f2, u1, u2, m1, m2, hbt⟩ := HCR.out hcf
    have HA := Lib.hid hbt.a
    have HB2 := Lib.hid hbt.b
    have HT := Lib.hid hbt.t
    have HF := Lib.hid hbt.f
    have HUp := Lib.hid hbt.u
    have HM := Lib.hid hbt.m
    have HDv := Lib.hid (show lowQ (t1 * m2) (t2 * m1) = (x1, x2, true) from by have := hbt.x; rw [HX.out] at this; exact this)
    have OX := Lib.hid (show okQ x1 x2 = true from by have := hbt.ok; rw [HX.out] at this; exact this)
    have SA := Lib.hid hbt.sa
    have SB := Lib.hid hbt.sb
    have ST := Lib.hid hbt.st
    have SF := Lib.hid hbt.sf
    have SU := Lib.hid hbt.su
    have SM := Lib.hid hbt.sm
    clear hbt hcf
    go_wp2_with fail
    refine (raMul_any p3 p4 q1 q2 a1 a2 true SP.out.2.1 SP.out.2.2 SQ.out.1.1 SQ.out.1.2 HA.out _).mono ?_
    rintro e w3 ⟨rfl, hb⟩
    have hX : Below v2.heap.size v2 w3 := nextX (by go_grown) hb
    replace HO := Lib.hid (HO.out.keep hX)
    replace c10 := cellB hX c10
    replace c11 := cellB hX c11
    replace c12 := cellB hX c12
    replace c13 := cellB hX c13
    replace c20 := cellB hX c20
    replace c21 := cellB hX c21
    replace c22 := cellB hX c22
    replace c23 := cellB hX c23
    have zc10 := Nat.lt_of_lt_of_le zc10 hX.size
    have zc20 := Nat.lt_of_lt_of_le zc20 hX.size
    replace hB := nextW hB hX
    clear hb hX
    go_wp2_with fail
    refine (raMul_any q3 q4 p1 p2 b1 b2 true SQ.out.2.1 SQ.out.2.2 SP.out.1.1 SP.out.1.2 HB2.out _).mono ?_
    rintro e w4 ⟨rfl, hb⟩
    have hX : Below w3.heap.size w3 w4 := nextX (by go_grown) hb
    replace HO := Lib.hid (HO.out.keep hX)
    replace c10 := cellB hX c10
    replace c11 := cellB hX c11
    replace c12 := cellB hX c12
    replace c13 := cellB hX c13
    replace c20 := cellB hX c20
    replace c21 := cellB hX c21
    replace c22 := cellB hX c22
    replace c23 := cellB hX c23
    have xa0 : w4.cell? ⟨w3.heap.size, 0, none⟩ = some (.int .i64 a1) := cellB hb (by simp [go_sem])
    have xa1 : w4.cell? ⟨w3.heap.size, 1, none⟩ = some (.int .i64 a2) := cellB hb (by simp [go_sem])
    have zxa0 := lt_of_cell xa0
    have zc10 := Nat.lt_of_lt_of_le zc10 hX.size
    have zc20 := Nat.lt_of_lt_of_le zc20 hX.size
    replace hB := nextW hB hX
    clear hb hX
    go_wp2_with fail
    refine (raSub_any a1 a2 b1 b2 t1 t2 true SA.out.1 SA.out.2 SB.out.1 SB.out.2 HT.out _).mono ?_
    rintro e w5 ⟨rfl, hb⟩
    have hX : Below w4.heap.size w4 w5 := nextX (by go_grown) hb
    replace HO := Lib.hid (HO.out.keep hX)
    replace c10 := cellB hX c10
    replace c11 := cellB hX c11
    replace c12 := cellB hX c12
    replace c13 := cellB hX c13
    replace c20 := cellB hX c20
    replace c21 := cellB hX c21
    replace c22 := cellB hX c22
    replace c23 := cellB hX c23
    replace xa0 := cellB hX xa0
    replace xa1 := cellB hX xa1
    have xb0 : w5.cell? ⟨w4.heap.size, 0, none⟩ = some (.int .i64 b1) := cellB hb (by simp [go_sem])
    have xb1 : w5.cell? ⟨w4.heap.size, 1, none⟩ = some (.int .i64 b2) := cellB hb (by simp [go_sem])
    have zxb0 := lt_of_cell xb0
    have zc10 := Nat.lt_of_lt_of_le zc10 hX.size
    have zc20 := Nat.lt_of_lt_of_le zc20 hX.size
    have zxa0 := Nat.lt_of_lt_of_le zxa0 hX.size
    replace hB := nextW hB hX
    clear hb hX
    go_wp2_with fail
    refine (raSub_any q1 q2 p1 p2 f1 f2 true SQ.out.1.1 SQ.out.1.2 SP.out.1.1 SP.out.1.2 HF.out _).mono ?_
    rintro e w6 ⟨rfl, hb⟩
    have hX : Below w5.heap.size w5 w6 := nextX (by go_grown) hb
    replace HO := Lib.hid (HO.out.keep hX)
    replace c10 := cellB hX c10
    replace c11 := cellB hX c11
    replace c12 := cellB hX c12
    replace c13 := cellB hX c13
    replace c20 := cellB hX c20
    replace c21 := cellB hX c21
    replace c22 := cellB hX c22
    replace c23 := cellB hX c23
    replace xa0 := cellB hX xa0
    replace xa1 := cellB hX xa1
    replace xb0 := cellB hX xb0
    replace xb1 := cellB hX xb1
    have xt0 : w6.cell? ⟨w5.heap.size, 0, none⟩ = some (.int .i64 t1) := cellB hb (by simp [go_sem])
    have xt1 : w6.cell? ⟨w5.heap.size, 1, none⟩ = some (.int .i64 t2) := cellB hb (by simp [go_sem])
    have zxt0 := lt_of_cell xt0
    have zc10 := Nat.lt_of_lt_of_le zc10 hX.size
    have zc20 := Nat.lt_of_lt_of_le zc20 hX.size
    have zxa0 := Nat.lt_of_lt_of_le zxa0 hX.size
    have zxb0 := Nat.lt_of_lt_of_le zxb0 hX.size
    replace hB := nextW hB hX
    clear hb hX
    go_wp2_with fail
    refine (raSub_any q3 q4 p3 p4 u1 u2 true SQ.out.2.1 SQ.out.2.2 SP.out.2.1 SP.out.2.2 HUp.out _).mono ?_
    rintro e w7 ⟨rfl, hb⟩
    have hX : Below w6.heap.size w6 w7 := nextX (by go_grown) hb
    replace HO := Lib.hid (HO.out.keep hX)
    replace c10 := cellB hX c10
    replace c11 := cellB hX c11
    replace c12 := cellB hX c12
    replace c13 := cellB hX c13
    replace c20 := cellB hX c20
    replace c21 := cellB hX c21
    replace c22 := cellB hX c22
    replace c23 := cellB hX c23
    replace xa0 := cellB hX xa0
    replace xa1 := cellB hX xa1
    replace xb0 := cellB hX xb0
    replace xb1 := cellB hX xb1
    replace xt0 := cellB hX xt0
    replace xt1 := cellB hX xt1
    have xf0 : w7.cell? ⟨w6.heap.size, 0, none⟩ = some (.int .i64 f1) := cellB hb (by simp [go_sem])
    have xf1 : w7.cell? ⟨w6.heap.size, 1, none⟩ = some (.int .i64 f2) := cellB hb (by simp [go_sem])
    have zxf0 := lt_of_cell xf0
    have zc10 := Nat.lt_of_lt_of_le zc10 hX.size
    have zc20 := Nat.lt_of_lt_of_le zc20 hX.size
    have zxa0 := Nat.lt_of_lt_of_le zxa0 hX.size
    have zxb0 := Nat.lt_of_lt_of_le zxb0 hX.size
    have zxt0 := Nat.lt_of_lt_of_le zxt0 hX.size
    replace hB := nextW hB hX
    clear hb hX
    go_wp2_with fail
    refine (raSub_any f1 f2 u1 u2 m1 m2 true SF.out.1 SF.out.2 SU.out.1 SU.out.2 HM.out _).mono ?_
    rintro e w8 ⟨rfl, hb⟩
    have hX : Below w7.heap.size w7 w8 := nextX (by go_grown) hb
    replace HO := Lib.hid (HO.out.keep hX)
    replace c10 := cellB hX c10
    replace c11 := cellB hX c11
    replace c12 := cellB hX c12
    replace c13 := cellB hX c13
    replace c20 := cellB hX c20
    replace c21 := cellB hX c21
    replace c22 := cellB hX c22
    replace c23 := cellB hX c23
    replace xa0 := cellB hX xa0
    replace xa1 := cellB hX xa1
    replace xb0 := cellB hX xb0
    replace xb1 := cellB hX xb1
    replace xt0 := cellB hX xt0
    replace xt1 := cellB hX xt1
    replace xf0 := cellB hX xf0
    replace xf1 := cellB hX xf1
    have xu0 : w8.cell? ⟨w7.heap.size, 0, none⟩ = some (.int .i64 u1) := cellB hb (by simp [go_sem])
    have xu1 : w8.cell? ⟨w7.heap.size, 1, none⟩ = some (.int .i64 u2) := cellB hb (by simp [go_sem])
    have zxu0 := lt_of_cell xu0
    have zc10 := Nat.lt_of_lt_of_le zc10 hX.size
    have zc20 := Nat.lt_of_lt_of_le zc20 hX.size
    have zxa0 := Nat.lt_of_lt_of_le zxa0 hX.size
    have zxb0 := Nat.lt_of_lt_of_le zxb0 hX.size
    have zxt0 := Nat.lt_of_lt_of_le zxt0 hX.size
    have zxf0 := Nat.lt_of_lt_of_le zxf0 hX.size
    replace hB := nextW hB hX
    clear hb hX
    go_wp2_with fail
    refine (raDiv_any t1 t2 m1 m2 x1 x2 true ST.out.1 ST.out.2 SM.out.1 SM.out.2 HDv.out _).mono ?_
    rintro e w9 ⟨rfl, hb⟩
    have hX : Below w8.heap.size w8 w9 := nextX (by go_grown) hb
    replace HO := Lib.hid (HO.out.keep hX)
    replace c10 := cellB hX c10
    replace c11 := cellB hX c11
    replace c12 := cellB hX c12
    replace c13 := cellB hX c13
    replace c20 := cellB hX c20
    replace c21 := cellB hX c21
    replace c22 := cellB hX c22
    replace c23 := cellB hX c23
    replace xa0 := cellB hX xa0
    replace xa1 := cellB hX xa1
    replace xb0 := cellB hX xb0
    replace xb1 := cellB hX xb1
    replace xt0 := cellB hX xt0
    replace xt1 := cellB hX xt1
    replace xf0 := cellB hX xf0
    replace xf1 := cellB hX xf1
    replace xu0 := cellB hX xu0
    replace xu1 := cellB hX xu1
    have xm0 : w9.cell? ⟨w8.heap.size, 0, none⟩ = some (.int .i64 m1) := cellB hb (by simp [go_sem])
    have xm1 : w9.cell? ⟨w8.heap.size, 1, none⟩ = some (.int .i64 m2) := cellB hb (by simp [go_sem])
    have zxm0 := lt_of_cell xm0
    have zc10 := Nat.lt_of_lt_of_le zc10 hX.size
    have zc20 := Nat.lt_of_lt_of_le zc20 hX.size
    have zxa0 := Nat.lt_of_lt_of_le zxa0 hX.size
    have zxb0 := Nat.lt_of_lt_of_le zxb0 hX.size
    have zxt0 := Nat.lt_of_lt_of_le zxt0 hX.size
    have zxf0 := Nat.lt_of_lt_of_le zxf0 hX.size
    have zxu0 := Nat.lt_of_lt_of_le zxu0 hX.size
    replace hB := nextW hB hX
    clear hb hX
    have hzd := hB.size
    go_wp2_with fail
    refine (imPut_is base (l) _ x1 x2 _ (HO.out.keep (by go_grown)) (HOk.out) OX.out (by omega) (by go_size)).mono ?_
    rintro e w10 ⟨r10, rfl, ow, hb⟩
    have hX : Below w9.heap.size w9 w10 := nextX (by go_grown) hb
    replace c10 := cellB hX c10
    replace c11 := cellB hX c11
    replace c12 := cellB hX c12
    replace c13 := cellB hX c13
    replace c20 := cellB hX c20
    replace c21 := cellB hX c21
    replace c22 := cellB hX c22
    replace c23 := cellB hX c23
    replace xa0 := cellB hX xa0
    replace xa1 := cellB hX xa1
    replace xb0 := cellB hX xb0
    replace xb1 := cellB hX xb1
    replace xt0 := cellB hX xt0
    replace xt1 := cellB hX xt1
    replace xf0 := cellB hX xf0
    replace xf1 := cellB hX xf1
    replace xu0 := cellB hX xu0
    replace xu1 := cellB hX xu1
    replace xm0 := cellB hX xm0
    replace xm1 := cellB hX xm1
    have xd0 : w10.cell? ⟨w9.heap.size, 0, none⟩ = some (.int .i64 x1) := cellB hb (by simp [go_sem])
    have xd1 : w10.cell? ⟨w9.heap.size, 1, none⟩ = some (.int .i64 x2) := cellB hb (by simp [go_sem])
    have zxd0 := lt_of_cell xd0
    have zc10 := Nat.lt_of_lt_of_le zc10 hX.size
    have zc20 := Nat.lt_of_lt_of_le zc20 hX.size
    have zxa0 := Nat.lt_of_lt_of_le zxa0 hX.size
    have zxb0 := Nat.lt_of_lt_of_le zxb0 hX.size
    have zxt0 := Nat.lt_of_lt_of_le zxt0 hX.size
    have zxf0 := Nat.lt_of_lt_of_le zxf0 hX.size
    have zxu0 := Nat.lt_of_lt_of_le zxu0 hX.size
    have zxm0 := Nat.lt_of_lt_of_le zxm0 hX.size
    replace hB := nextW hB hX
    replace HO := Lib.hid ow
    have hz10 := hB.size
    clear ow hb hX
    have hl10 := insQ_len (x1, x2) (l)
    have HE := Lib.hid (show fixPc (((p1, p2), p3, p4), ((q1, q2), q3, q4)) = [(x1, x2)] from by rw [HPC.out]; simp)
    go_wp2_with fail
    go_ret
    exact ⟨_, rfl, by rw [HE.out]; exact HO.out, hB⟩
  · go_wp2_with fail
    refine (imPut_is base (l) _ p1 p2 _ (HO.out.keep (by go_grown)) (HOk.out) OP.out (by omega) (by go_size)).mono ?_
    rintro e w3 ⟨r3, rfl, ow, hb⟩
    have hX : Below v2.heap.size v2 w3 := nextX (by go_grown) hb
    replace c10 := cellB hX c10
    replace c11 := cellB hX c11
    replace c12 := cellB hX c12
    replace c13 := cellB hX c13
    replace c20 := cellB hX c20
    replace c21 := cellB hX c21
    replace c22 := cellB hX c22
    replace c23 := cellB hX c23
    have zc10 := Nat.lt_of_lt_of_le zc10 hX.size
    have zc20 := Nat.lt_of_lt_of_le zc20 hX.size
    replace hB := nextW hB hX
    replace HO := Lib.hid ow
    have hz3 := hB.size
    clear ow hb hX
    have hl3 := insQ_len (p1, p2) (l)
    have HE := Lib.hid (show fixPc (((p1, p2), p3, p4), ((q1, q2), q3, q4)) = [(p1, p2)] from by rw [HPC.out]; simp)
    go_wp2_with fail
    go_ret
    exact ⟨_, rfl, by rw [HE.out]; exact HO.out, hB⟩
  · go_wp2_with fail
    refine (imPut_is base (l) _ p1 p2 _ (HO.out.keep (by go_grown)) (HOk.out) OP.out (by omega) (by go_size)).mono ?_
    rintro e w3 ⟨r3, rfl, ow, hb⟩
    have hX : Below v2.heap.size v2 w3 := nextX (by go_grown) hb
    replace c10 := cellB hX c10
    replace c11 := cellB hX c11
    replace c12 := cellB hX c12
    replace c13 := cellB hX c13
    replace c20 := cellB hX c20
    replace c21 := cellB hX c21
    replace c22 := cellB hX c22
    replace c23 := cellB hX c23
    have zc10 := Nat.lt_of_lt_of_le zc10 hX.size
    have zc20 := Nat.lt_of_lt_of_le zc20 hX.size
    replace hB := nextW hB hX
    replace HO := Lib.hid ow
    have hz3 := hB.size
    clear ow hb hX
    have hl3 := insQ_len (p1, p2) (l)
    go_wp2_with fail
    refine (imPut_is base (insQ (p1, p2) (l)) _ q1 q2 _ (HO.out.keep (by go_grown)) (insQ_ok OP.out (HOk.out)) OQ.out (by omega) (by go_size)).mono ?_
    rintro e w4 ⟨r4, rfl, ow, hb⟩
    have hX : Below w3.heap.size w3 w4 := nextX (by go_grown) hb
    replace c10 := cellB hX c10
    replace c11 := cellB hX c11
    replace c12 := cellB hX c12
    replace c13 := cellB hX c13
    replace c20 := cellB hX c20
    replace c21 := cellB hX c21
    replace c22 := cellB hX c22
    replace c23 := cellB hX c23
    have zc10 := Nat.lt_of_lt_of_le zc10 hX.size
    have zc20 := Nat.lt_of_lt_of_le zc20 hX.size
    replace hB := nextW hB hX
    replace HO := Lib.hid ow
    have hz4 := hB.size
    clear ow hb hX
    have hl4 := insQ_len (q1, q2) (insQ (p1, p2) (l))
    have HE := Lib.hid (show fixPc (((p1, p2), p3, p4), ((q1, q2), q3, q4)) = [(p1, p2), (q1, q2)] from by rw [HPC.out]; simp)
    go_wp2_with fail
    go_ret
    exact ⟨_, rfl, by rw [HE.out]; exact HO.out, hB⟩
  · go_wp2_with fail
    refine (imPut_is base (l) _ p1 p2 _ (HO.out.keep (by go_grown)) (HOk.out) OP.out (by omega) (by go_size)).mono ?_
    rintro e w3 ⟨r3, rfl, ow, hb⟩
    have hX : Below v2.heap.size v2 w3 := nextX (by go_grown) hb
    replace c10 := cellB hX c10
    replace c11 := cellB hX c11
    replace c12 := cellB hX c12
    replace c13 := cellB hX c13
    replace c20 := cellB hX c20
    replace c21 := cellB hX c21
    replace c22 := cellB hX c22
    replace c23 := cellB hX c23
    have zc10 := Nat.lt_of_lt_of_le zc10 hX.size
    have zc20 := Nat.lt_of_lt_of_le zc20 hX.size
    replace hB := nextW hB hX
    replace HO := Lib.hid ow
    have hz3 := hB.size
    clear ow hb hX
    have hl3 := insQ_len (p1, p2) (l)
    have HE := Lib.hid (show fixPc (((p1, p2), p3, p4), ((q1, q2), q3, q4)) = [(p1, p2)] from by rw [HPC.out]; simp)
    go_wp2_with fail
    go_ret
    exact ⟨_, rfl, by rw [HE.out]; exact HO.out, hB⟩
  · have hcf : crossF ((p1, p2), p3, p4) ((q1, q2), q3, q4) = true := by rw [HCC.out]; decide
    obtain ⟨a1, a2, b1, b2, t1, t2, f1, f2, u1, u2, m1, m2, hbt⟩ := HCR.out hcf
    have HA := Lib.hid hbt.a
    have HB2 := Lib.hid hbt.b
    have HT := Lib.hid hbt.t
    have HF := Lib.hid hbt.f
    have HUp := Lib.hid hbt.u
    have HM := Lib.hid hbt.m
    have HDv := Lib.hid (show lowQ (t1 * m2) (t2 * m1) = (x1, x2, true) from by have := hbt.x; rw [HX.out] at this; exact this)
    have OX := Lib.hid (show okQ x1 x2 = true from by have := hbt.ok; rw [HX.out] at this; exact this)
    have SA := Lib.hid hbt.sa
    have SB := Lib.hid hbt.sb
    have ST := Lib.hid hbt.st
    have SF := Lib.hid hbt.sf
    have SU := Lib.hid hbt.su
    have SM := Lib.hid hbt.sm
    clear hbt hcf
    go_wp2_with fail
    refine (raMul_any p3 p4 q1 q2 a1 a2 true SP.out.2.1 SP.out.2.2 SQ.out.1.1 SQ.out.1.2 HA.out _).mono ?_
    rintro e w3 ⟨rfl, hb⟩
    have hX : Below v2.heap.size v2 w3 := nextX (by go_grown) hb
    replace HO := Lib.hid (HO.out.keep hX)
    replace c10 := cellB hX c10
    replace c11 := cellB hX c11
    replace c12 := cellB hX c12
    replace c13 := cellB hX c13
    replace c20 := cellB hX c20
    replace c21 := cellB hX c21
    replace c22 := cellB hX c22
    replace c23 := cellB hX c23
    have zc10 := Nat.lt_of_lt_of_le zc10 hX.size
    have zc20 := Nat.lt_of_lt_of_le zc20 hX.size
    replace hB := nextW hB hX
    clear hb hX
    go_wp2_with fail
    refine (raMul_any q3 q4 p1 p2 b1 b2 true SQ.out.2.1 SQ.out.2.2 SP.out.1.1 SP.out.1.2 HB2.out _).mono ?_
    rintro e w4 ⟨rfl, hb⟩
    have hX : Below w3.heap.size w3 w4 := nextX (by go_grown) hb
    replace HO := Lib.hid (HO.out.keep hX)
    replace c10 := cellB hX c10
    replace c11 := cellB hX c11
    replace c12 := cellB hX c12
    replace c13 := cellB hX c13
    replace c20 := cellB hX c20
    replace c21 := cellB hX c21
    replace c22 := cellB hX c22
    replace c23 := cellB hX c23
    have xa0 : w4.cell? ⟨w3.heap.size, 0, none⟩ = some (.int .i64 a1) := cellB hb (by simp [go_sem])
    have xa1 : w4.cell? ⟨w3.heap.size, 1, none⟩ = some (.int .i64 a2) := cellB hb (by simp [go_sem])
    have zxa0 := lt_of_cell xa0
    have zc10 := Nat.lt_of_lt_of_le zc10 hX.size
    have zc20 := Nat.lt_of_lt_of_le zc20 hX.size
    replace hB := nextW hB hX
    clear hb hX
    go_wp2_with fail
    refine (raSub_any a1 a2 b1 b2 t1 t2 true SA.out.1 SA.out.2 SB.out.1 SB.out.2 HT.out _).mono ?_
    rintro e w5 ⟨rfl, hb⟩
    have hX : Below w4.heap.size w4 w5 := nextX (by go_grown) hb
    replace HO := Lib.hid (HO.out.keep hX)
    replace c10 := cellB hX c10
    replace c11 := cellB hX c11
    replace c12 := cellB hX c12
    replace c13 := cellB hX c13
    replace c20 := cellB hX c20
    replace c21 := cellB hX c21
    replace c22 := cellB hX c22
    replace c23 := cellB hX c23
    replace xa0 := cellB hX xa0
    replace xa1 := cellB hX xa1
    have xb0 : w5.cell? ⟨w4.heap.size, 0, none⟩ = some (.int .i64 b1) := cellB hb (by simp [go_sem])
    have xb1 : w5.cell? ⟨w4.heap.size, 1, none⟩ = some (.int .i64 b2) := cellB hb (by simp [go_sem])
    have zxb0 := lt_of_cell xb0
    have zc10 := Nat.lt_of_lt_of_le zc10 hX.size
    have zc20 := Nat.lt_of_lt_of_le zc20 hX.size
    have zxa0 := Nat.lt_of_lt_of_le zxa0 hX.size
    replace hB := nextW hB hX
    clear hb hX
    go_wp2_with fail
    refine (raSub_any q1 q2 p1 p2 f1 f2 true SQ.out.1.1 SQ.out.1.2 SP.out.1.1 SP.out.1.2 HF.out _).mono ?_
    rintro e w6 ⟨rfl, hb⟩
    have hX : Below w5.heap.size w5 w6 := nextX (by go_grown) hb
    replace HO := Lib.hid (HO.out.keep hX)
    replace c10 := cellB hX c10
    replace c11 := cellB hX c11
    replace c12 := cellB hX c12
    replace c13 := cellB hX c13
    replace c20 := cellB hX c20
    replace c21 := cellB hX c21
    replace c22 := cellB hX c22
    replace c23 := cellB hX c23
    replace xa0 := cellB hX xa0
    replace xa1 := cellB hX xa1
    replace xb0 := cellB hX xb0
    replace xb1 := cellB hX xb1
    have xt0 : w6.cell? ⟨w5.heap.size, 0, none⟩ = some (.int .i64 t1) := cellB hb (by simp [go_sem])
    have xt1 : w6.cell? ⟨w5.heap.size, 1, none⟩ = some (.int .i64 t2) := cellB hb (by simp [go_sem])
    have zxt0 := lt_of_cell xt0
    have zc10 := Nat.lt_of_lt_of_le zc10 hX.size
    have zc20 := Nat.lt_of_lt_of_le zc20 hX.size
    have zxa0 := Nat.lt_of_lt_of_le zxa0 hX.size
    have zxb0 := Nat.lt_of_lt_of_le zxb0 hX.size
    replace hB := nextW hB hX
    clear hb hX
    go_wp2_with fail
    refine (raSub_any q3 q4 p3 p4 u1 u2 true SQ.out.2.1 SQ.out.2.2 SP.out.2.1 SP.out.2.2 HUp.out _).mono ?_
    rintro e w7 ⟨rfl, hb⟩
    have hX : Below w6.heap.size w6 w7 := nextX (by go_grown) hb
    replace HO := Lib.hid (HO.out.keep hX)
    replace c10 := cellB hX c10
    replace c11 := cellB hX c11
    replace c12 := cellB hX c12
    replace c13 := cellB hX c13
    replace c20 := cellB hX c20
    replace c21 := cellB hX c21
    replace c22 := cellB hX c22
    replace c23 := cellB hX c23
    replace xa0 := cellB hX xa0
    replace xa1 := cellB hX xa1
    replace xb0 := cellB hX xb0
    replace xb1 := cellB hX xb1
    replace xt0 := cellB hX xt0
    replace xt1 := cellB hX xt1
    have xf0 : w7.cell? ⟨w6.heap.size, 0, none⟩ = some (.int .i64 f1) := cellB hb (by simp [go_sem])
    have xf1 : w7.cell? ⟨w6.heap.size, 1, none⟩ = some (.int .i64 f2) := cellB hb (by simp [go_sem])
    have zxf0 := lt_of_cell xf0
    have zc10 := Nat.lt_of_lt_of_le zc10 hX.size
    have zc20 := Nat.lt_of_lt_of_le zc20 hX.size
    have zxa0 := Nat.lt_of_lt_of_le zxa0 hX.size
    have zxb0 := Nat.lt_of_lt_of_le zxb0 hX.size
    have zxt0 := Nat.lt_of_lt_of_le zxt0 hX.size
    replace hB := nextW hB hX
    clear hb hX
    go_wp2_with fail
    refine (raSub_any f1 f2 u1 u2 m1 m2 true SF.out.1 SF.out.2 SU.out.1 SU.out.2 HM.out _).mono ?_
    rintro e w8 ⟨rfl, hb⟩
    have hX : Below w7.heap.size w7 w8 := nextX (by go_grown) hb
    replace HO := Lib.hid (HO.out.keep hX)
    replace c10 := cellB hX c10
    replace c11 := cellB hX c11
    replace c12 := cellB hX c12
    replace c13 := cellB hX c13
    replace c20 := cellB hX c20
    replace c21 := cellB hX c21
    replace c22 := cellB hX c22
    replace c23 := cellB hX c23
    replace xa0 := cellB hX xa0
    replace xa1 := cellB hX xa1
    replace xb0 := cellB hX xb0
    replace xb1 := cellB hX xb1
    replace xt0 := cellB hX xt0
    replace xt1 := cellB hX xt1
    replace xf0 := cellB hX xf0
    replace xf1 := cellB hX xf1
    have xu0 : w8.cell? ⟨w7.heap.size, 0, none⟩ = some (.int .i64 u1) := cellB hb (by simp [go_sem])
    have xu1 : w8.cell? ⟨w7.heap.size, 1, none⟩ = some (.int .i64 u2) := cellB hb (by simp [go_sem])
    have zxu0 := lt_of_cell xu0
    have zc10 := Nat.lt_of_lt_of_le zc10 hX.size
    have zc20 := Nat.lt_of_lt_of_le zc20 hX.size
    have zxa0 := Nat.lt_of_lt_of_le zxa0 hX.size
    have zxb0 := Nat.lt_of_lt_of_le zxb0 hX.size
    have zxt0 := Nat.lt_of_lt_of_le zxt0 hX.size
    have zxf0 := Nat.lt_of_lt_of_le zxf0 hX.size
    replace hB := nextW hB hX
    clear hb hX
    go_wp2_with fail
    refine (raDiv_any t1 t2 m1 m2 x1 x2 true ST.out.1 ST.out.2 SM.out.1 SM.out.2 HDv.out _).mono ?_
    rintro e w9 ⟨rfl, hb⟩
    have hX : Below w8.heap.size w8 w9 := nextX (by go_grown) hb
    replace HO := Lib.hid (HO.out.keep hX)
    replace c10 := cellB hX c10
    replace c11 := cellB hX c11
    replace c12 := cellB hX c12
    replace c13 := cellB hX c13
    replace c20 := cellB hX c20
    replace c21 := cellB hX c21
    replace c22 := cellB hX c22
    replace c23 := cellB hX c23
    replace xa0 := cellB hX xa0
    replace xa1 := cellB hX xa1
    replace xb0 := cellB hX xb0
    replace xb1 := cellB hX xb1
    replace xt0 := cellB hX xt0
    replace xt1 := cellB hX xt1
    replace xf0 := cellB hX xf0
    replace xf1 := cellB hX xf1
    replace xu0 := cellB hX xu0
    replace xu1 := cellB hX xu1
    have xm0 : w9.cell? ⟨w8.heap.size, 0, none⟩ = some (.int .i64 m1) := cellB hb (by simp [go_sem])
    have xm1 : w9.cell? ⟨w8.heap.size, 1, none⟩ = some (.int .i64 m2) := cellB hb (by simp [go_sem])
    have zxm0 := lt_of_cell xm0
    have zc10 := Nat.lt_of_lt_of_le zc10 hX.size
    have zc20 := Nat.lt_of_lt_of_le zc20 hX.size
    have zxa0 := Nat.lt_of_lt_of_le zxa0 hX.size
    have zxb0 := Nat.lt_of_lt_of_le zxb0 hX.size
    have zxt0 := Nat.lt_of_lt_of_le zxt0 hX.size
    have zxf0 := Nat.lt_of_lt_of_le zxf0 hX.size
    have zxu0 := Nat.lt_of_lt_of_le zxu0 hX.size
    replace hB := nextW hB hX
    clear hb hX
    have hzd := hB.size
    go_wp2_with fail
    refine (imPut_is base (l) _ x1 x2 _ (HO.out.keep (by go_grown)) (HOk.out) OX.out (by omega) (by go_size)).mono ?_
    rintro e w10 ⟨r10, rfl, ow, hb⟩
    have hX : Below w9.heap.size w9 w10 := nextX (by go_grown) hb
    replace c10 := cellB hX c10
    replace c11 := cellB hX c11
    replace c12 := cellB hX c12
    replace c13 := cellB hX c13
    replace c20 := cellB hX c20
    replace c21 := cellB hX c21
    replace c22 := cellB hX c22
    replace c23 := cellB hX c23
    replace xa0 := cellB hX xa0
    replace xa1 := cellB hX xa1
    replace xb0 := cellB hX xb0
    replace xb1 := cellB hX xb1
    replace xt0 := cellB hX xt0
    replace xt1 := cellB hX xt1
    replace xf0 := cellB hX xf0
    replace xf1 := cellB hX xf1
    replace xu0 := cellB hX xu0
    replace xu1 := cellB hX xu1
    replace xm0 := cellB hX xm0
    replace xm1 := cellB hX xm1
    have xd0 : w10.cell? ⟨w9.heap.size, 0, none⟩ = some (.int .i64 x1) := cellB hb (by simp [go_sem])
    have xd1 : w10.cell? ⟨w9.heap.size, 1, none⟩ = some (.int .i64 x2) := cellB hb (by simp [go_sem])
    have zxd0 := lt_of_cell xd0
    have zc10 := Nat.lt_of_lt_of_le zc10 hX.size
    have zc20 := Nat.lt_of_lt_of_le zc20 hX.size
    have zxa0 := Nat.lt_of_lt_of_le zxa0 hX.size
    have zxb0 := Nat.lt_of_lt_of_le zxb0 hX.size
    have zxt0 := Nat.lt_of_lt_of_le zxt0 hX.size
    have zxf0 := Nat.lt_of_lt_of_le zxf0 hX.size
    have zxu0 := Nat.lt_of_lt_of_le zxu0 hX.size
    have zxm0 := Nat.lt_of_lt_of_le zxm0 hX.size
    replace hB := nextW hB hX
    replace HO := Lib.hid ow
    have hz10 := hB.size
    clear ow hb hX
    have hl10 := insQ_len (x1, x2) (l)
    have HE := Lib.hid (show fixPc (((p1, p2), p3, p4), ((q1, q2), q3, q4)) = [(x1, x2)] from by rw [HPC.out]; simp)
    go_wp2_with fail
    go_ret
    exact ⟨_, rfl, by rw [HE.out]; exact HO.out, hB⟩
  · go_wp2_with fail
    refine (imPut_is base (l) _ q1 q2 _ (HO.out.keep (by go_grown)) (HOk.out) OQ.out (by omega) (by go_size)).mono ?_
    rintro e w3 ⟨r3, rfl, ow, hb⟩
    have hX : Below v2.heap.size v2 w3 := nextX (by go_grown) hb
    replace c10 := cellB hX c10
    replace c11 := cellB hX c11
    replace c12 := cellB hX c12
    replace c13 := cellB hX c13
    replace c20 := cellB hX c20
    replace c21 := cellB hX c21
    replace c22 := cellB hX c22
    replace c23 := cellB hX c23
    have zc10 := Nat.lt_of_lt_of_le zc10 hX.size
    have zc20 := Nat.lt_of_lt_of_le zc20 hX.size
    replace hB := nextW hB hX
    replace HO := Lib.hid ow
    have hz3 := hB.size
    clear ow hb hX
    have hl3 := insQ_len (q1, q2) (l)
    have HE := Lib.hid (show fixPc (((p1, p2), p3, p4), ((q1, q2), q3, q4)) = [(q1, q2)] from by rw [HPC.out]; simp)
    go_wp2_with fail
    go_ret
    exact ⟨_, rfl, by rw [HE.out]; exact HO.out, hB⟩
  · have HE := Lib.hid (show fixPc (((p1, p2), p3, p4), ((q1, q2), q3, q4)) = [] from by rw [HPC.out]; simp)
    go_wp2_with fail
    go_ret
    exact ⟨_, rfl, by rw [HE.out]; exact HO.out, hB⟩

theorem flat_len {α β : Type} (f : α → List β) (m : Nat) (h : ∀ a, (f a).length ≤ m) : ∀ l : List α, (l.flatMap f).length ≤ m * l.length
  | [] => by simp
  | a :: r => by
    have := flat_len f m h r
    have := h a
    rw [List.flatMap_cons, List.length_append, List.length_cons, Nat.mul_succ]
    omega
theorem flat_take {α β : Type} {f : α → List β} {l : List α} {k : Nat} {x : β} (h : x ∈ (l.take k).flatMap f) : x ∈ l.flatMap f := by
  obtain ⟨a, ha, hx⟩ := List.mem_flatMap.1 h
  exact List.mem_flatMap.2 ⟨a, List.mem_of_mem_take ha, hx⟩
theorem flat_snoc {α β : Type} {f : α → List β} {l : List α} {k : Nat} {a : α} (h : l[k]? = some a) : (l.take (k + 1)).flatMap f = (l.take k).flatMap f ++ f a := by
  rw [take_snoc_get h, List.flatMap_append]; simp

/-- What FixedPoints gives. -/
def fixedQ (ps : List Pt) : List Q × Bool := if okMap ps = true then (fixQ ps, true) else ([], false)
theorem fixQ_len {ps : List Pt} : (fixQ ps).length ≤ 3 * (ps.length - 1) := by
  unfold fixQ
  have h1 := setQ_len ((pcs ps).flatMap fixPc)
  have h2 := flat_len fixPc 3 fixPc_len (pcs ps)
  rw [pcs_len] at h2
  omega
theorem fixedQ_len {ps : List Pt} {l : List Q} {t : Bool} (h : fixedQ ps = (l, t)) : l.length ≤ 1048576 := by
  unfold fixedQ at h
  split at h
  · rename_i hh
    obtain ⟨rfl, -⟩ := Prod.mk.inj h
    have h1 := @fixQ_len ps
    have := okMap_len hh
    omega
  · obtain ⟨rfl, -⟩ := Prod.mk.inj h; simp
def fixUpTo (ps : List Pt) (k : Nat) : List Q := putsQ (((pcs ps).take k).flatMap fixPc) []
theorem fixUpTo_all (ps : List Pt) {k : Nat} (h : ps.length - 1 ≤ k) : fixUpTo ps k = fixQ ps := by
  unfold fixUpTo fixQ putsQ setQ
  rw [List.take_of_length_le (by rw [pcs_len]; exact h)]
theorem fixUpTo_len (ps : List Pt) (k : Nat) : (fixUpTo ps k).length ≤ 3 * (ps.length - 1) := by
  unfold fixUpTo
  have h1 := putsQ_len (((pcs ps).take k).flatMap fixPc) []
  have h2 := flat_len fixPc 3 fixPc_len ((pcs ps).take k)
  rw [List.length_take, pcs_len] at h2
  simp only [List.length_nil] at h1
  omega
theorem fixUpTo_ok {ps : List Pt} (h : okMap ps = true) (k : Nat) : OkL (fixUpTo ps k) :=
  putsQ_ok (fun x hx => fixPc_ok h x (flat_take hx)) (fun q hq => by simp at hq)
theorem fixUpTo_next {ps : List Pt} {k : Nat} {p q : Pt} (hp : ps[k]? = some p) (hq : ps[k + 1]? = some q) : fixUpTo ps (k + 1) = putsQ (fixPc (p, q)) (fixUpTo ps k) := by
  unfold fixUpTo
  rw [flat_snoc (pcs_get hp hq), putsQ_app]

set_option maxHeartbeats 400000 in
theorem iFixedPoints_is (ps : List Pt) (v : Value) (l : List Q) (t : Bool) (hl : fixedQ ps = (l, t)) (w : World) (hv : RdP w v ps) (hn : ps.length ≤ 1048576) :
    Calls Tryz.prog 61 #[v] w (RetQB w l t) := by
  have HV := Lib.hid hv
  rcases hm : okMap ps with _ | _
  · obtain ⟨rfl, rfl⟩ : [] = l ∧ false = t := by unfold fixedQ at hl; rw [if_neg (by rw [hm]; simp)] at hl; exact Prod.mk.inj hl
    have HM := Lib.hid hm
    clear hv hl hm
    go_enter Tryz.func61, Tryz.ntmps61
    go_wp2_with fail
    refine (isMap_is ps v false _ (HV.out.keep (by go_grown)) hn HM.out).mono ?_
    rintro e w1 ⟨rfl, hb⟩
    go_wp2_with fail
    go_ret2
    exact ⟨_, rfl, World.ownsRow_nil _ _ _ _, hb⟩
  · obtain ⟨rfl, rfl⟩ : fixQ ps = l ∧ true = t := by unfold fixedQ at hl; rw [if_pos hm] at hl; exact Prod.mk.inj hl
    have HM := Lib.hid hm
    clear hv hl hm
    go_enter Tryz.func61, Tryz.ntmps61
    go_wp2_with fail
    refine (isMap_is ps v true _ (HV.out.keep (by go_grown)) hn HM.out).mono ?_
    rintro e w1 ⟨rfl, hb⟩
    have hz := hb.size
    go_wp2_with fail
    refine (fixed_is ps v _ (HV.out.keep hb) HM.out).mono ?_
    rintro e w2 ⟨r, rfl, ow, hb2⟩
    have HO := Lib.hid (ow.low (b := w.heap.size) hz)
    clear ow
    go_wp2_with fail
    go_ret2
    exact ⟨_, rfl, HO.out, nextW hb hb2⟩

def RelFs (ps : List Pt) (h : Nat) (W0 : World) (out i : Value) (wr : World) : Prop :=
  ∃ k : Nat, k + 1 ≤ ps.length ∧ i = .int .i64 (k + 1) ∧ OwQ h 31 wr out (fixUpTo ps k) ∧ Below h W0 wr

set_option maxRecDepth 100000 in
set_option maxHeartbeats 1600000 in
theorem sFixedPoints_is (ps : List Pt) (v : Value) (l : List Q) (t : Bool) (hl : fixedQ ps = (l, t)) (w : World) (hv : RdP w v ps) (hn : ps.length ≤ 1048576) :
    Calls Tryz.prog 62 #[v] w (RetQB w l t) := by
  have HV := Lib.hid hv
  rcases hm : okMap ps with _ | _
  · obtain ⟨rfl, rfl⟩ : [] = l ∧ false = t := by unfold fixedQ at hl; rw [if_neg (by rw [hm]; simp)] at hl; exact Prod.mk.inj hl
    have HM := Lib.hid hm
    clear hv hl hm
    go_enter Tryz.func62, Tryz.ntmps62
    go_wp2_with fail
    refine (imGood_is ps v false _ (HV.out.keep (by go_grown)) hn HM.out).mono ?_
    rintro e w1 ⟨rfl, hb⟩
    go_wp2_with fail
    go_ret2
    exact ⟨_, rfl, World.ownsRow_nil _ _ _ _, hb⟩
  · obtain ⟨rfl, rfl⟩ : fixQ ps = l ∧ true = t := by unfold fixedQ at hl; rw [if_pos hm] at hl; exact Prod.mk.inj hl
    have HM := Lib.hid hm
    have hlen := okMap_len hm
    clear hl hm
    obtain ⟨A, c, rfl, hl, hmx, hcell⟩ := hv
    unfold maxLen at hmx
    obtain ⟨g, o, rfl, hg, hc⟩ := hcell (by intro h; rw [h] at hlen; simp at hlen)
    have HC := Lib.hid hc
    clear hcell hc
    go_enter Tryz.func62, Tryz.ntmps62
    go_wp2_with fail
    refine (imGood_is ps _ true _ (HV.out.keep (by go_grown)) hn HM.out).mono ?_
    rintro e w1 ⟨rfl, hb⟩
    have hB1 : Below w.heap.size w w1 := hb
    clear hb
    go_wp2_with fail
    go_name_world W0 hW
    have hB0 : Below w.heap.size w W0 := by rw [← hW]; exact hB1
    clear hW hB1
    go_loopw [4, 5] (fun out i wr => RelFs ps w.heap.size W0 out i wr) (fun _ i _ => ps.length - (intOf i).toNat)
    case atStart => exact ⟨0, by omega, rfl, World.ownsRow_nil _ _ _ _, Below.refl _ _⟩
    case round =>
      obtain ⟨k, hk, rfl, hown, hb⟩ := hrel
      have HO := Lib.hid hown
      have hBr := Below.trans hB0 hb
      have hzr := hBr.size
      clear hown
      by_cases hlt : k + 1 < ps.length
      · have hp := List.getElem?_eq_getElem (show k < ps.length by omega)
        have hq := List.getElem?_eq_getElem hlt
        have hcp := okMap_coord HM.out hp
        have hcq := okMap_coord HM.out hq
        generalize ps[k] = p at *
        generalize ps[k + 1] = q at *
        obtain ⟨c0, c1, c2, c3⟩ := HC.out k _ hp
        obtain ⟨d0, d1, d2, d3⟩ := HC.out (k + 1) _ hq
        have HSn := Lib.hid (fixUpTo_next hp hq)
        have HLe := Lib.hid (fixUpTo_len ps k)
        have HOk := Lib.hid (fixUpTo_ok HM.out k)
        obtain ⟨⟨p1, p2⟩, p3, p4⟩ := p
        obtain ⟨⟨q1, q2⟩, q3, q4⟩ := q
        have HP := Lib.hid (show CoP ((p1, p2), p3, p4) from hcp)
        have HQ := Lib.hid (show CoP ((q1, q2), q3, q4) from hcq)
        have kL : Facts [(g, o + k * 4, Value.int .i64 p1), (g, o + k * 4 + 1, Value.int .i64 p2), (g, o + k * 4 + 2, Value.int .i64 p3), (g, o + k * 4 + 3, Value.int .i64 p4), (g, o + (k + 1) * 4, Value.int .i64 q1), (g, o + (k + 1) * 4 + 1, Value.int .i64 q2), (g, o + (k + 1) * 4 + 2, Value.int .i64 q3), (g, o + (k + 1) * 4 + 3, Value.int .i64 q4)] wr := Facts.keepB (W := w) (B := w.heap.size) (show Facts [_, _, _, _, _, _, _, _] w from ⟨c0, c1, c2, c3, d0, d1, d2, d3⟩) hBr (by simp; omega)
        have b0 : (0 : Int) ≤ (k : Int) := by omega
        have b1 : (k : Int) + 1 < (ps.length : Int) := by omega
        have b1' : (k : Int) < (ps.length : Int) := by omega
        have b3 : (0 : Int) ≤ (k : Int) + 1 := by omega
        have t2 : ((k : Int) + 1).toNat = k + 1 := by omega
        have v2 : IntKind.i64.wrap ((k : Int) + 1) = (k : Int) + 1 := IntWalk.i64_in _ (by omega)
        have v3 : IntKind.i64.wrap (k : Int) = (k : Int) := IntWalk.i64_in _ (by omega)
        have v4 : IntKind.i64.wrap ((k : Int) + 1 + 1) = (k : Int) + 1 + 1 := IntWalk.i64_in _ (by omega)
        have HF := Lib.hid (fun W (hw : OwQ w.heap.size 31 W u4 (fixUpTo ps k)) (hz : w.heap.size ≤ W.heap.size) => imFixed_is w.heap.size (fixUpTo ps k) u4 p1 p2 p3 p4 q1 q2 q3 q4 W hw HOk.out (by have := HLe.out; omega) hz HP.out HQ.out)
        clear hp hq hcp hcq c0 c1 c2 c3 d0 d1 d2 d3
        go_wp2_with fail
        go_region_held3 (fun w' => w'.cell? ⟨g, o + k * 4, none⟩ = some (.int .i64 p1) ∧ w'.cell? ⟨g, o + k * 4 + 1, none⟩ = some (.int .i64 p2) ∧ w'.cell? ⟨g, o + k * 4 + 2, none⟩ = some (.int .i64 p3) ∧ w'.cell? ⟨g, o + k * 4 + 3, none⟩ = some (.int .i64 p4) ∧ w'.cell? ⟨g, o + (k + 1) * 4, none⟩ = some (.int .i64 q1) ∧ w'.cell? ⟨g, o + (k + 1) * 4 + 1, none⟩ = some (.int .i64 q2) ∧ w'.cell? ⟨g, o + (k + 1) * 4 + 2, none⟩ = some (.int .i64 q3) ∧ w'.cell? ⟨g, o + (k + 1) * 4 + 3, none⟩ = some (.int .i64 q4))
          ((refine Facts.keep kL ?_; go_grown; done))
          ((go_at_call 132; (with_reducible refine (HF.out _ (HO.out.keep (by go_grown)) (by go_size)).mono ?_); rintro e w2 ⟨r2, rfl, ow2, hb2⟩; have hX2 : Below wr.heap.size wr w2 := nextX (by go_grown) hb2))
        have HO2 := Lib.hid ow2
        have hB : Below w.heap.size W0 w2 := Below.trans hb (hX2.mono hzr)
        clear ow2 hb2 hX2 HO
        go_wp2_with fail
        go_roundw
        case rel => exact ⟨k + 1, by omega, by go_num, by rw [HSn.out]; exact HO2.out, hB⟩
        case measure => simp [intOf]; omega
      · have b5 : (ps.length : Int) ≤ (k : Int) + 1 := by omega
        have HE := Lib.hid (show OwQ w.heap.size 31 wr u4 (fixQ ps) by have := HO.out; rwa [fixUpTo_all ps (by omega)] at this)
        clear HO
        go_wp2_with fail
        go_ret2
        exact ⟨_, rfl, HE.out, hBr⟩

end Go.Proofs.YtkeajfgcjmhmiaaGreat
