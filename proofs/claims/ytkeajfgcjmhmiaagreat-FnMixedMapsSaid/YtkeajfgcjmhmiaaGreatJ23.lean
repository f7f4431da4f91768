/- The reference's fractions before a value; PointsBefore of both. -/
import Derived.Test.YtkeajfgcjmhmiaaGreatJ20
import Derived.Test.YtkeajfgcjmhmiaaGreatJ22
namespace Go.Proofs.YtkeajfgcjmhmiaaGreat
open Go.RowKit

theorem befPc_cmp {y : Q} {p q : Pt} (hp : CoP p) (hq : CoP q) (hy : okQ y.1 y.2 = true) : befPc y (p, q) = (if cmpQ p.2.1 p.2.2 y.1 y.2 = 0 then [p.1] else []) ++ (if cmpQ q.2.1 q.2.2 y.1 y.2 = 0 then [q.1] else []) ++ (if cmpQ p.2.1 p.2.2 y.1 y.2 * cmpQ q.2.1 q.2.2 y.1 y.2 < 0 then [((backQ p q y).1, (backQ p q y).2.1)] else []) := by
  have eqc : ∀ {r : Pt}, CoP r → ((r.2 = y) = (cmpQ r.2.1 r.2.2 y.1 y.2 = 0)) := fun {r} hr => by
    have h2 := (coP_ok hr).2
    refine propext ?_
    rw [cmpQ_eq (okQ_bd h2).1 (okQ_bd hy).1]
    exact ⟨fun e => by rw [e], fun e => toR_inj h2 hy e⟩
  have e3 : (crossY y p q = true) = (cmpQ p.2.1 p.2.2 y.1 y.2 * cmpQ q.2.1 q.2.2 y.1 y.2 < 0) := by
    unfold crossY
    rw [decide_eq_true_eq]
  unfold befPc
  simp only [eqc hp, eqc hq, e3]
theorem befPc_len (y : Q) (s : Pt × Pt) : (befPc y s).length ≤ 3 := by
  unfold befPc
  rw [List.length_append, List.length_append]
  repeat' split
  all_goals simp
def befUpTo (y : Q) (ps : List Pt) (k : Nat) : List Q := putsQ (((pcs ps).take k).flatMap (befPc y)) []
theorem befUpTo_all (y : Q) (ps : List Pt) {k : Nat} (h : ps.length - 1 ≤ k) : befUpTo y ps k = befQ y ps := by
  unfold befUpTo befQ putsQ setQ
  rw [List.take_of_length_le (by rw [pcs_len]; exact h)]
theorem befUpTo_len (y : Q) (ps : List Pt) (k : Nat) : (befUpTo y ps k).length ≤ 3 * (ps.length - 1) := by
  unfold befUpTo
  have h1 := putsQ_len (((pcs ps).take k).flatMap (befPc y)) []
  have h2 := flat_len (befPc y) 3 (befPc_len y) ((pcs ps).take k)
  rw [List.length_take, pcs_len] at h2
  simp only [List.length_nil] at h1
  omega
theorem befUpTo_next {y : Q} {ps : List Pt} {k : Nat} {p q : Pt} (hp : ps[k]? = some p) (hq : ps[k + 1]? = some q) : befUpTo y ps (k + 1) = putsQ (befPc y (p, q)) (befUpTo y ps k) := by
  unfold befUpTo
  rw [flat_snoc (pcs_get hp hq), putsQ_app]
/-- No piece of the first k is bad. -/
def fineTo (y : Q) (ps : List Pt) (k : Nat) : Prop := ((pcs ps).take k).any (badPc y) = false
theorem fineTo_zero (y : Q) (ps : List Pt) : fineTo y ps 0 := by unfold fineTo; simp
theorem fineTo_next {y : Q} {ps : List Pt} {k : Nat} {p q : Pt} (hp : ps[k]? = some p) (hq : ps[k + 1]? = some q) (h : fineTo y ps k) (hb : badPc y (p, q) = false) : fineTo y ps (k + 1) := by
  unfold fineTo at *
  rw [take_snoc_get (pcs_get hp hq), List.any_append, h]
  simp [hb]
theorem fineTo_all {y : Q} {ps : List Pt} {k : Nat} (hk : ps.length - 1 ≤ k) (h : fineTo y ps k) : befOk y ps = true := by
  unfold fineTo at h
  rw [List.take_of_length_le (by rw [pcs_len]; exact hk)] at h
  unfold befOk; rw [h]; rfl
theorem fineTo_not {y : Q} {ps : List Pt} {k : Nat} {p q : Pt} (hp : ps[k]? = some p) (hq : ps[k + 1]? = some q) (hb : badPc y (p, q) = true) : befOk y ps = false := by
  unfold befOk
  rw [Bool.not_eq_false', List.any_eq_true]
  exact ⟨(p, q), mem_pcs.2 ⟨k, hp, hq⟩, hb⟩
theorem befUpTo_ok {y : Q} {ps : List Pt} (h : okMap ps = true) {k : Nat} (hf : fineTo y ps k) : OkL (befUpTo y ps k) := by
  refine putsQ_ok (fun x hx => ?_) (fun q hq => by simp at hq)
  obtain ⟨s, hs, hm⟩ := List.mem_flatMap.1 hx
  obtain ⟨c1, c2⟩ := okMap_pc h (List.mem_of_mem_take hs)
  unfold fineTo at hf
  rw [List.any_eq_false] at hf
  have hb := hf s hs
  unfold befPc at hm
  rcases List.mem_append.1 hm with hm | hm
  · rcases List.mem_append.1 hm with hm | hm
    · split at hm
      · obtain rfl := List.mem_singleton.1 hm
        exact unitQ_ok (coordQ_unit c1.1)
      · simp at hm
    · split at hm
      · obtain rfl := List.mem_singleton.1 hm
        exact unitQ_ok (coordQ_unit c2.1)
      · simp at hm
  · split at hm
    · rename_i hc
      obtain rfl := List.mem_singleton.1 hm
      have hf : (backQ s.1 s.2 y).2.2 = true := by
        unfold badPc at hb
        rw [hc] at hb
        simpa using hb
      rw [← back_value hf]
      exact backV_ok ..
    · simp at hm

/-- What imBefore gives. -/
def befRes (y : Q) (ps : List Pt) : List Q × Bool := if befOk y ps = true then (befQ y ps, true) else ([], false)
def RelBs (y : Q) (ps : List Pt) (h : Nat) (W0 : World) (out i : Value) (wr : World) : Prop :=
  ∃ k : Nat, k + 1 ≤ ps.length ∧ i = .int .i64 (k + 1) ∧ OwQ h 31 wr out (befUpTo y ps k) ∧ fineTo y ps k ∧ Below h W0 wr

set_option maxRecDepth 100000 in
set_option maxHeartbeats 12800000 in
theorem imBefore_is (ps : List Pt) (v : Value) (y1 y2 : Int) (l : List Q) (t : Bool) (hl : befRes (y1, y2) ps = (l, t)) (w : World) (hv : RdP w v ps) (hm : okMap ps = true) (hy : okQ y1 y2 = true) :
    Calls Tryz.prog 110 #[v, .agg #[.int .i64 y1, .int .i64 y2]] w (RetQB w l t) := by
  have hn := okMap_len hm
  have HM := Lib.hid hm
  obtain ⟨A, c, rfl, hl', hmx, hcell⟩ := hv
  unfold maxLen at hmx
  obtain ⟨g, o, rfl, hg, hc⟩ := hcell (by intro h; rw [h] at hn; simp at hn)
  have HC := Lib.hid hc
  have HL := Lib.hid hl
  have HY := Lib.hid hy
  have SY := Lib.hid (Sm.of_ok hy)
  clear hcell hc hm hy hl
  go_enter Tryz.func110, Tryz.ntmps110
  go_wp2_with fail
  go_name_world W0 hW
  have hB0 : Below w.heap.size w W0 := by rw [← hW]; go_grown
  have y0 : W0.cell? ⟨w.heap.size, 0, none⟩ = some (.int .i64 y1) := by rw [← hW]; simp [go_sem]
  have y1' : W0.cell? ⟨w.heap.size, 1, none⟩ = some (.int .i64 y2) := by rw [← hW]; simp [go_sem]
  have hz0 : w.heap.size < W0.heap.size := lt_of_cell y0
  clear hW
  go_loopw [6, 7] (fun out i wr => RelBs (y1, y2) ps W0.heap.size W0 out i wr) (fun _ i _ => ps.length - (intOf i).toNat)
  case atStart => exact ⟨0, by omega, rfl, World.ownsRow_nil _ _ _ _, fineTo_zero _ _, Below.refl _ _⟩
  case round =>
    obtain ⟨k, hk, rfl, hown, hfine, hb2⟩ := hrel
    have HO := Lib.hid hown
    have HFi := Lib.hid hfine
    have hBr2 : Below w.heap.size w wr := hB0.trans (hb2.mono (by omega))
    have hzr0 : W0.heap.size ≤ wr.heap.size := hb2.size
    clear hown hfine
    by_cases hlt : k + 1 < ps.length
    · have hp := List.getElem?_eq_getElem (show k < ps.length by omega)
      have hq := List.getElem?_eq_getElem hlt
      have hcp := okMap_coord HM.out hp
      have hcq := okMap_coord HM.out hq
      generalize ps[k] = p at *
      generalize ps[k + 1] = q at *
      obtain ⟨c0, c1, c2, c3⟩ := HC.out k _ hp
      obtain ⟨d0, d1, d2, d3⟩ := HC.out (k + 1) _ hq
      have HSn := Lib.hid (befUpTo_next (y := (y1, y2)) hp hq)
      have HPp := Lib.hid hp
      have HQq := Lib.hid hq
      have HRi := Lib.hid (okMap_rising HM.out hp hq)
      have hlen := befUpTo_len (y1, y2) ps k
      have HOk := Lib.hid (befUpTo_ok HM.out HFi.out)
      obtain ⟨⟨p1, p2⟩, p3, p4⟩ := p
      obtain ⟨⟨q1, q2⟩, q3, q4⟩ := q
      have HP := Lib.hid (show CoP ((p1, p2), p3, p4) from hcp)
      have HQ := Lib.hid (show CoP ((q1, q2), q3, q4) from hcq)
      have kL : Facts [(g, o + k * 4, Value.int .i64 p1), (g, o + k * 4 + 1, Value.int .i64 p2), (g, o + k * 4 + 2, Value.int .i64 p3), (g, o + k * 4 + 3, Value.int .i64 p4), (g, o + (k + 1) * 4, Value.int .i64 q1), (g, o + (k + 1) * 4 + 1, Value.int .i64 q2), (g, o + (k + 1) * 4 + 2, Value.int .i64 q3), (g, o + (k + 1) * 4 + 3, Value.int .i64 q4)] wr := Facts.keepB (W := w) (B := w.heap.size) (show Facts [_, _, _, _, _, _, _, _] w from ⟨c0, c1, c2, c3, d0, d1, d2, d3⟩) hBr2 (by simp; omega)
      have b0 : (0 : Int) ≤ (k : Int) := by omega
      have b1 : (k : Int) + 1 < (ps.length : Int) := by omega
      have b1' : (k : Int) < (ps.length : Int) := by omega
      have b3 : (0 : Int) ≤ (k : Int) + 1 := by omega
      have t2 : ((k : Int) + 1).toNat = k + 1 := by omega
      have v2 : IntKind.i64.wrap ((k : Int) + 1) = (k : Int) + 1 := IntWalk.i64_in _ (by omega)
      have v3 : IntKind.i64.wrap (k : Int) = (k : Int) := IntWalk.i64_in _ (by omega)
      have v4 : IntKind.i64.wrap ((k : Int) + 1 + 1) = (k : Int) + 1 + 1 := IntWalk.i64_in _ (by omega)
      have hpc := befPc_cmp (y := (y1, y2)) HP.out HQ.out HY.out
      have hcr : crossY (y1, y2) ((p1, p2), p3, p4) ((q1, q2), q3, q4) = decide (cmpQ p3 p4 y1 y2 * cmpQ q3 q4 y1 y2 < 0) := rfl
      simp only at hpc
      obtain ⟨⟨x1, x2, xt⟩, hx⟩ : ∃ x, backQ ((p1, p2), p3, p4) ((q1, q2), q3, q4) (y1, y2) = x := ⟨_, rfl⟩
      obtain ⟨u, hu⟩ : ∃ u, cmpQ p3 p4 y1 y2 = u := ⟨_, rfl⟩
      obtain ⟨y, hy⟩ : ∃ y, cmpQ q3 q4 y1 y2 = y := ⟨_, rfl⟩
      have hu3 := cmpQ_abs p3 p4 y1 y2
      have hy3 := cmpQ_abs q3 q4 y1 y2
      obtain ⟨op1, op2⟩ := coP_ok HP.out
      obtain ⟨oq1, oq2⟩ := coP_ok HQ.out
      have HU := Lib.hid (fun W => raCmp_is p3 p4 y1 y2 u (Sm.of_ok op2) SY.out hu W)
      have HV := Lib.hid (fun W => raCmp_is q3 q4 y1 y2 y (Sm.of_ok oq2) SY.out hy W)
      rw [hx, hu, hy] at hpc
      rw [hu] at hu3 hcr
      rw [hy] at hy3 hcr
      have HPC := Lib.hid hpc
      have OP := Lib.hid (show okQ p1 p2 = true from op1)
      have OQ := Lib.hid (show okQ q1 q2 = true from oq1)
      have HCr := Lib.hid hcr
      have HX := Lib.hid hx
      clear hp hq hcp hcq c0 c1 c2 c3 d0 d1 d2 d3 hpc hu hy hx op1 op2 oq1 oq2 hcr
      go_wp2_with fail
      go_name_world W1 hW1
      have hX1 : Below wr.heap.size wr W1 := by rw [← hW1]; go_grown
      replace kL := kL.keep hX1
      have HO1 := Lib.hid (HO.out.keep hX1)
      have hB1 : Below W0.heap.size W0 W1 := Below.trans hb2 (hX1.mono hzr0)
      have hz1 : W0.heap.size ≤ W1.heap.size := hB1.size
      clear hW1 HO hb2 hBr2 hX1
      go_cut [8, 9] (fun s7 s8 wx => VarP wx s7 W1.heap.size p1 p2 p3 p4 ∧ VarP wx s8 W1.heap.size q1 q2 q3 q4 ∧ Below W1.heap.size W1 wx)
      case first =>
        go_region_held3 (fun w' => w'.cell? ⟨g, o + k * 4, none⟩ = some (.int .i64 p1) ∧ w'.cell? ⟨g, o + k * 4 + 1, none⟩ = some (.int .i64 p2) ∧ w'.cell? ⟨g, o + k * 4 + 2, none⟩ = some (.int .i64 p3) ∧ w'.cell? ⟨g, o + k * 4 + 3, none⟩ = some (.int .i64 p4) ∧ w'.cell? ⟨g, o + (k + 1) * 4, none⟩ = some (.int .i64 q1) ∧ w'.cell? ⟨g, o + (k + 1) * 4 + 1, none⟩ = some (.int .i64 q2) ∧ w'.cell? ⟨g, o + (k + 1) * 4 + 2, none⟩ = some (.int .i64 q3) ∧ w'.cell? ⟨g, o + (k + 1) * 4 + 3, none⟩ = some (.int .i64 q4))
          ((first | (refine Facts.keep kL ?_; go_grown; done) | (refine Facts.put (Facts.keep kL ?_) ?_ <;> first | (go_grown; done) | (simp; omega)) | (refine Facts.put (Facts.put (Facts.keep kL ?_) ?_) ?_ <;> first | (go_grown; done) | (simp; omega))))
          ((fail))
        all_goals
          go_wp2_with fail
          go_meet
          refine ⟨⟨_, rfl, ?_, ?_, ?_, ?_, ?_⟩, ⟨_, rfl, ?_, ?_, ?_, ?_, ?_⟩, ?_⟩
          all_goals first | omega | (go_grown; done) | (simp [go_sem, *]; done)
      case rest =>
        obtain ⟨⟨s8, rfl, hs8, k0, k1, k2, k3⟩, ⟨s9, rfl, hs9, l0, l1, l2, l3⟩, hX2⟩ := hcut
        replace HO1 := Lib.hid (HO1.out.keep hX2)
        have hzw : W1.heap.size ≤ wc.heap.size := hX2.size
        have hB2 : Below W0.heap.size W0 wc := Below.trans hB1 (hX2.mono hz1)
        have yr0 := (hB2.cell (p := ⟨w.heap.size, 0, none⟩) hz0).trans y0
        have yr1 := (hB2.cell (p := ⟨w.heap.size, 1, none⟩) hz0).trans y1'
        have kV : Facts [(s8, 0, Value.int .i64 p1), (s8, 1, Value.int .i64 p2), (s8, 2, Value.int .i64 p3), (s8, 3, Value.int .i64 p4), (s9, 0, Value.int .i64 q1), (s9, 1, Value.int .i64 q2), (s9, 2, Value.int .i64 q3), (s9, 3, Value.int .i64 q4), (w.heap.size, 0, Value.int .i64 y1), (w.heap.size, 1, Value.int .i64 y2)] wc := ⟨k0, k1, k2, k3, l0, l1, l2, l3, yr0, yr1⟩
        have HKV := Lib.hid kV
        clear hX2 k0 k1 k2 k3 l0 l1 l2 l3 kL yr0 yr1 hB1
        go_wp2_with fail
        go_region_held3 (fun w' => w'.cell? ⟨s8, 0, none⟩ = some (.int .i64 p1) ∧ w'.cell? ⟨s8, 1, none⟩ = some (.int .i64 p2) ∧ w'.cell? ⟨s8, 2, none⟩ = some (.int .i64 p3) ∧ w'.cell? ⟨s8, 3, none⟩ = some (.int .i64 p4) ∧ w'.cell? ⟨s9, 0, none⟩ = some (.int .i64 q1) ∧ w'.cell? ⟨s9, 1, none⟩ = some (.int .i64 q2) ∧ w'.cell? ⟨s9, 2, none⟩ = some (.int .i64 q3) ∧ w'.cell? ⟨s9, 3, none⟩ = some (.int .i64 q4) ∧ w'.cell? ⟨w.heap.size, 0, none⟩ = some (.int .i64 y1) ∧ w'.cell? ⟨w.heap.size, 1, none⟩ = some (.int .i64 y2))
          ((refine Facts.keep kV ?_; go_grown; done))
          ((first
            | (go_at_call 96; (with_reducible refine (HU.out _).mono ?_); rintro e v1 ⟨rfl, hb1⟩; have hX3 : Below wc.heap.size wc v1 := nextX (by go_grown) hb1; have hz3 := hX3.size)
            | (go_at_call 96; (with_reducible refine (HV.out _).mono ?_); rintro e v2 ⟨rfl, hb2⟩; have hX4 : Below wc.heap.size wc v2 := nextX hX3 (nextX (by go_grown) hb2); have hz4 := hX4.size)))
        replace HKV := Lib.hid (HKV.out.keep hX4)
        have HO := Lib.hid (HO1.out.keep hX4)
        have hB : Below W0.heap.size W0 v2 := Below.trans hB2 (hX4.mono (by omega))
        clear hX3 hX4 hb1 HO1 hB2
        obtain ⟨c10, c11, c12, c13, c20, c21, c22, c23, cy0, cy1⟩ := (HKV.out : Facts [(s8, 0, Value.int .i64 p1), (s8, 1, Value.int .i64 p2), (s8, 2, Value.int .i64 p3), (s8, 3, Value.int .i64 p4), (s9, 0, Value.int .i64 q1), (s9, 1, Value.int .i64 q2), (s9, 2, Value.int .i64 q3), (s9, 3, Value.int .i64 q4), (w.heap.size, 0, Value.int .i64 y1), (w.heap.size, 1, Value.int .i64 y2)] v2)
        have hzv : W0.heap.size ≤ v2.heap.size := hB.size
        have zc10 := lt_of_cell c10
        have zc20 := lt_of_cell c20
        have zcy0 := lt_of_cell cy0
        rcases hu3 with rfl | rfl | rfl <;> rcases hy3 with rfl | rfl | rfl
        · have hbad : badPc (y1, y2) (((p1, p2), p3, p4), ((q1, q2), q3, q4)) = false := by unfold badPc; rw [HCr.out]; rfl
          have HE := Lib.hid (show befPc (y1, y2) (((p1, p2), p3, p4), ((q1, q2), q3, q4)) = [] from by rw [HPC.out]; simp)
          have HOn := Lib.hid (show OwQ W0.heap.size 31 _ _ (befUpTo (y1, y2) ps (k + 1)) from by rw [HSn.out, HE.out]; exact HO.out)
          go_wp2_with fail
          go_roundw
          case rel => exact ⟨k + 1, by omega, by go_num, HOn.out, fineTo_next HPp.out HQq.out HFi.out hbad, hB⟩
          case measure => simp [intOf]; omega
        · go_wp2_with fail
          refine (imPut_is W0.heap.size (befUpTo (y1, y2) ps k) _ q1 q2 _ (HO.out.keep (by go_grown)) (HOk.out) OQ.out (by omega) (by go_size)).mono ?_
          rintro e w3 ⟨r3, rfl, ow, hb⟩
          have hX : Below v2.heap.size v2 w3 := nextX (by go_grown) hb
          replace c10 := cellB hX c10
          replace c11 := cellB hX c11
          replace c12 := cellB hX c12
          replace c13 := cellB hX c13
          replace c20 := cellB hX c20
          replace c21 := cellB hX c21
          replace c22 := cellB hX c22
          replace c23 := cellB hX c23
          replace cy0 := cellB hX cy0
          replace cy1 := cellB hX cy1
          have zc10 := Nat.lt_of_lt_of_le zc10 hX.size
          have zc20 := Nat.lt_of_lt_of_le zc20 hX.size
          have zcy0 := Nat.lt_of_lt_of_le zcy0 hX.size
          replace hB := Below.trans hB (hX.mono hB.size)
          replace HO := Lib.hid ow
          have hz3 := hB.size
          clear ow hb hX
          have hl3 := insQ_len (q1, q2) (befUpTo (y1, y2) ps k)
          have hbad : badPc (y1, y2) (((p1, p2), p3, p4), ((q1, q2), q3, q4)) = false := by unfold badPc; rw [HCr.out]; rfl
          have HE := Lib.hid (show befPc (y1, y2) (((p1, p2), p3, p4), ((q1, q2), q3, q4)) = [(q1, q2)] from by rw [HPC.out]; simp)
          have HOn := Lib.hid (show OwQ W0.heap.size 31 _ _ (befUpTo (y1, y2) ps (k + 1)) from by rw [HSn.out, HE.out]; exact HO.out)
          go_wp2_with fail
          go_roundw
          case rel => exact ⟨k + 1, by omega, by go_num, HOn.out, fineTo_next HPp.out HQq.out HFi.out hbad, hB⟩
          case measure => simp [intOf]; omega
        · have HBk := Lib.hid (fun W => imBack_is p1 p2 p3 p4 q1 q2 q3 q4 y1 y2 x1 x2 xt W HP.out HQ.out HRi.out HY.out HX.out)
          have hbd : badPc (y1, y2) (((p1, p2), p3, p4), ((q1, q2), q3, q4)) = !xt := by unfold badPc; rw [HCr.out, HX.out]; simp
          have hok : xt = true → okQ x1 x2 = true := fun h => by have hf : (backQ ((p1, p2), p3, p4) ((q1, q2), q3, q4) (y1, y2)).2.2 = true := by { rw [HX.out]; exact h }; have := back_value hf; rw [HX.out] at this; have h2 := backV_ok ((p1, p2), p3, p4) ((q1, q2), q3, q4) (y1, y2); rw [this] at h2; exact h2
          go_wp2_with fail
          refine (HBk.out _).mono ?_
          rintro e w3 ⟨rfl, hb⟩
          have hX : Below v2.heap.size v2 w3 := nextX (by go_grown) hb
          replace HO := Lib.hid (HO.out.keep hX)
          replace c10 := cellB hX c10
          replace c11 := cellB hX c11
          replace c12 := cellB hX c12
          replace c13 := cellB hX c13
          replace c20 := cellB hX c20
          replace c21 := cellB hX c21
          replace c22 := cellB hX c22
          replace c23 := cellB hX c23
          replace cy0 := cellB hX cy0
          replace cy1 := cellB hX cy1
          have zc10 := Nat.lt_of_lt_of_le zc10 hX.size
          have zc20 := Nat.lt_of_lt_of_le zc20 hX.size
          have zcy0 := Nat.lt_of_lt_of_le zcy0 hX.size
          replace hB := Below.trans hB (hX.mono hB.size)
          clear hb hX
          cases xt with
          | false =>
            have hno := fineTo_not HPp.out HQq.out hbd
            obtain ⟨rfl, rfl⟩ : [] = l ∧ false = t := by have := HL.out; unfold befRes at this; rw [if_neg (by rw [hno]; simp)] at this; exact Prod.mk.inj this
            go_wp2_with fail
            go_ret2
            exact ⟨_, rfl, World.ownsRow_nil _ _ _ _, hB0.trans ((Below.trans hB (by go_grown)).mono (by omega))⟩
          | true =>
            have OX := Lib.hid (hok rfl)
            have hbad : badPc (y1, y2) (((p1, p2), p3, p4), ((q1, q2), q3, q4)) = false := hbd
            go_wp2_with fail
            refine (imPut_is W0.heap.size (befUpTo (y1, y2) ps k) _ x1 x2 _ (HO.out.keep (by go_grown)) (HOk.out) OX.out (by omega) (by go_size)).mono ?_
            rintro e w4 ⟨r4, rfl, ow, hb⟩
            have hX : Below w3.heap.size w3 w4 := nextX (by go_grown) hb
            replace c10 := cellB hX c10
            replace c11 := cellB hX c11
            replace c12 := cellB hX c12
            replace c13 := cellB hX c13
            replace c20 := cellB hX c20
            replace c21 := cellB hX c21
            replace c22 := cellB hX c22
            replace c23 := cellB hX c23
            replace cy0 := cellB hX cy0
            replace cy1 := cellB hX cy1
            have xa0 : w4.cell? ⟨w3.heap.size, 0, none⟩ = some (.int .i64 x1) := cellB hb (by simp [go_sem])
            have xa1 : w4.cell? ⟨w3.heap.size, 1, none⟩ = some (.int .i64 x2) := cellB hb (by simp [go_sem])
            have zxa0 := lt_of_cell xa0
            have zc10 := Nat.lt_of_lt_of_le zc10 hX.size
            have zc20 := Nat.lt_of_lt_of_le zc20 hX.size
            have zcy0 := Nat.lt_of_lt_of_le zcy0 hX.size
            replace hB := Below.trans hB (hX.mono hB.size)
            replace HO := Lib.hid ow
            have hz4 := hB.size
            clear ow hb hX
            have hl4 := insQ_len (x1, x2) (befUpTo (y1, y2) ps k)
            have HE := Lib.hid (show befPc (y1, y2) (((p1, p2), p3, p4), ((q1, q2), q3, q4)) = [(x1, x2)] from by rw [HPC.out]; simp)
            have HOn := Lib.hid (show OwQ W0.heap.size 31 _ _ (befUpTo (y1, y2) ps (k + 1)) from by rw [HSn.out, HE.out]; exact HO.out)
            go_wp2_with fail
            go_roundw
            case rel => exact ⟨k + 1, by omega, by go_num, HOn.out, fineTo_next HPp.out HQq.out HFi.out hbad, hB⟩
            case measure => simp [intOf]; omega
        · go_wp2_with fail
          refine (imPut_is W0.heap.size (befUpTo (y1, y2) ps k) _ p1 p2 _ (HO.out.keep (by go_grown)) (HOk.out) OP.out (by omega) (by go_size)).mono ?_
          rintro e w3 ⟨r3, rfl, ow, hb⟩
          have hX : Below v2.heap.size v2 w3 := nextX (by go_grown) hb
          replace c10 := cellB hX c10
          replace c11 := cellB hX c11
          replace c12 := cellB hX c12
          replace c13 := cellB hX c13
          replace c20 := cellB hX c20
          replace c21 := cellB hX c21
          replace c22 := cellB hX c22
          replace c23 := cellB hX c23
          replace cy0 := cellB hX cy0
          replace cy1 := cellB hX cy1
          have zc10 := Nat.lt_of_lt_of_le zc10 hX.size
          have zc20 := Nat.lt_of_lt_of_le zc20 hX.size
          have zcy0 := Nat.lt_of_lt_of_le zcy0 hX.size
          replace hB := Below.trans hB (hX.mono hB.size)
          replace HO := Lib.hid ow
          have hz3 := hB.size
          clear ow hb hX
          have hl3 := insQ_len (p1, p2) (befUpTo (y1, y2) ps k)
          have hbad : badPc (y1, y2) (((p1, p2), p3, p4), ((q1, q2), q3, q4)) = false := by unfold badPc; rw [HCr.out]; rfl
          have HE := Lib.hid (show befPc (y1, y2) (((p1, p2), p3, p4), ((q1, q2), q3, q4)) = [(p1, p2)] from by rw [HPC.out]; simp)
          have HOn := Lib.hid (show OwQ W0.heap.size 31 _ _ (befUpTo (y1, y2) ps (k + 1)) from by rw [HSn.out, HE.out]; exact HO.out)
          go_wp2_with fail
          go_roundw
          case rel => exact ⟨k + 1, by omega, by go_num, HOn.out, fineTo_next HPp.out HQq.out HFi.out hbad, hB⟩
          case measure => simp [intOf]; omega
        · go_wp2_with fail
          refine (imPut_is W0.heap.size (befUpTo (y1, y2) ps k) _ p1 p2 _ (HO.out.keep (by go_grown)) (HOk.out) OP.out (by omega) (by go_size)).mono ?_
          rintro e w3 ⟨r3, rfl, ow, hb⟩
          have hX : Below v2.heap.size v2 w3 := nextX (by go_grown) hb
          replace c10 := cellB hX c10
          replace c11 := cellB hX c11
          replace c12 := cellB hX c12
          replace c13 := cellB hX c13
          replace c20 := cellB hX c20
          replace c21 := cellB hX c21
          replace c22 := cellB hX c22
          replace c23 := cellB hX c23
          replace cy0 := cellB hX cy0
          replace cy1 := cellB hX cy1
          have zc10 := Nat.lt_of_lt_of_le zc10 hX.size
          have zc20 := Nat.lt_of_lt_of_le zc20 hX.size
          have zcy0 := Nat.lt_of_lt_of_le zcy0 hX.size
          replace hB := Below.trans hB (hX.mono hB.size)
          replace HO := Lib.hid ow
          have hz3 := hB.size
          clear ow hb hX
          have hl3 := insQ_len (p1, p2) (befUpTo (y1, y2) ps k)
          go_wp2_with fail
          refine (imPut_is W0.heap.size (insQ (p1, p2) (befUpTo (y1, y2) ps k)) _ q1 q2 _ (HO.out.keep (by go_grown)) (insQ_ok OP.out (HOk.out)) OQ.out (by omega) (by go_size)).mono ?_
          rintro e w4 ⟨r4, rfl, ow, hb⟩
          have hX : Below w3.heap.size w3 w4 := nextX (by go_grown) hb
          replace c10 := cellB hX c10
          replace c11 := cellB hX c11
          replace c12 := cellB hX c12
          replace c13 := cellB hX c13
          replace c20 := cellB hX c20
          replace c21 := cellB hX c21
          replace c22 := cellB hX c22
          replace c23 := cellB hX c23
          replace cy0 := cellB hX cy0
          replace cy1 := cellB hX cy1
          have zc10 := Nat.lt_of_lt_of_le zc10 hX.size
          have zc20 := Nat.lt_of_lt_of_le zc20 hX.size
          have zcy0 := Nat.lt_of_lt_of_le zcy0 hX.size
          replace hB := Below.trans hB (hX.mono hB.size)
          replace HO := Lib.hid ow
          have hz4 := hB.size
          clear ow hb hX
          have hl4 := insQ_len (q1, q2) (insQ (p1, p2) (befUpTo (y1, y2) ps k))
          have hbad : badPc (y1, y2) (((p1, p2), p3, p4), ((q1, q2), q3, q4)) = false := by unfold badPc; rw [HCr.out]; rfl
          have HE := Lib.hid (show befPc (y1, y2) (((p1, p2), p3, p4), ((q1, q2), q3, q4)) = [(p1, p2), (q1, q2)] from by rw [HPC.out]; simp)
          have HOn := Lib.hid (show OwQ W0.heap.size 31 _ _ (befUpTo (y1, y2) ps (k + 1)) from by rw [HSn.out, HE.out]; exact HO.out)
          go_wp2_with fail
          go_roundw
          case rel => exact ⟨k + 1, by omega, by go_num, HOn.out, fineTo_next HPp.out HQq.out HFi.out hbad, hB⟩
          case measure => simp [intOf]; omega
        · go_wp2_with fail
          refine (imPut_is W0.heap.size (befUpTo (y1, y2) ps k) _ p1 p2 _ (HO.out.keep (by go_grown)) (HOk.out) OP.out (by omega) (by go_size)).mono ?_
          rintro e w3 ⟨r3, rfl, ow, hb⟩
          have hX : Below v2.heap.size v2 w3 := nextX (by go_grown) hb
          replace c10 := cellB hX c10
          replace c11 := cellB hX c11
          replace c12 := cellB hX c12
          replace c13 := cellB hX c13
          replace c20 := cellB hX c20
          replace c21 := cellB hX c21
          replace c22 := cellB hX c22
          replace c23 := cellB hX c23
          replace cy0 := cellB hX cy0
          replace cy1 := cellB hX cy1
          have zc10 := Nat.lt_of_lt_of_le zc10 hX.size
          have zc20 := Nat.lt_of_lt_of_le zc20 hX.size
          have zcy0 := Nat.lt_of_lt_of_le zcy0 hX.size
          replace hB := Below.trans hB (hX.mono hB.size)
          replace HO := Lib.hid ow
          have hz3 := hB.size
          clear ow hb hX
          have hl3 := insQ_len (p1, p2) (befUpTo (y1, y2) ps k)
          have hbad : badPc (y1, y2) (((p1, p2), p3, p4), ((q1, q2), q3, q4)) = false := by unfold badPc; rw [HCr.out]; rfl
          have HE := Lib.hid (show befPc (y1, y2) (((p1, p2), p3, p4), ((q1, q2), q3, q4)) = [(p1, p2)] from by rw [HPC.out]; simp)
          have HOn := Lib.hid (show OwQ W0.heap.size 31 _ _ (befUpTo (y1, y2) ps (k + 1)) from by rw [HSn.out, HE.out]; exact HO.out)
          go_wp2_with fail
          go_roundw
          case rel => exact ⟨k + 1, by omega, by go_num, HOn.out, fineTo_next HPp.out HQq.out HFi.out hbad, hB⟩
          case measure => simp [intOf]; omega
        · have HBk := Lib.hid (fun W => imBack_is p1 p2 p3 p4 q1 q2 q3 q4 y1 y2 x1 x2 xt W HP.out HQ.out HRi.out HY.out HX.out)
          have hbd : badPc (y1, y2) (((p1, p2), p3, p4), ((q1, q2), q3, q4)) = !xt := by unfold badPc; rw [HCr.out, HX.out]; simp
          have hok : xt = true → okQ x1 x2 = true := fun h => by have hf : (backQ ((p1, p2), p3, p4) ((q1, q2), q3, q4) (y1, y2)).2.2 = true := by { rw [HX.out]; exact h }; have := back_value hf; rw [HX.out] at this; have h2 := backV_ok ((p1, p2), p3, p4) ((q1, q2), q3, q4) (y1, y2); rw [this] at h2; exact h2
          go_wp2_with fail
          refine (HBk.out _).mono ?_
          rintro e w3 ⟨rfl, hb⟩
          have hX : Below v2.heap.size v2 w3 := nextX (by go_grown) hb
          replace HO := Lib.hid (HO.out.keep hX)
          replace c10 := cellB hX c10
          replace c11 := cellB hX c11
          replace c12 := cellB hX c12
          replace c13 := cellB hX c13
          replace c20 := cellB hX c20
          replace c21 := cellB hX c21
          replace c22 := cellB hX c22
          replace c23 := cellB hX c23
          replace cy0 := cellB hX cy0
          replace cy1 := cellB hX cy1
          have zc10 := Nat.lt_of_lt_of_le zc10 hX.size
          have zc20 := Nat.lt_of_lt_of_le zc20 hX.size
          have zcy0 := Nat.lt_of_lt_of_le zcy0 hX.size
          replace hB := Below.trans hB (hX.mono hB.size)
          clear hb hX
          cases xt with
          | false =>
            have hno := fineTo_not HPp.out HQq.out hbd
            obtain ⟨rfl, rfl⟩ : [] = l ∧ false = t := by have := HL.out; unfold befRes at this; rw [if_neg (by rw [hno]; simp)] at this; exact Prod.mk.inj this
            go_wp2_with fail
            go_ret2
            exact ⟨_, rfl, World.ownsRow_nil _ _ _ _, hB0.trans ((Below.trans hB (by go_grown)).mono (by omega))⟩
          | true =>
            have OX := Lib.hid (hok rfl)
            have hbad : badPc (y1, y2) (((p1, p2), p3, p4), ((q1, q2), q3, q4)) = false := hbd
            go_wp2_with fail
            refine (imPut_is W0.heap.size (befUpTo (y1, y2) ps k) _ x1 x2 _ (HO.out.keep (by go_grown)) (HOk.out) OX.out (by omega) (by go_size)).mono ?_
            rintro e w4 ⟨r4, rfl, ow, hb⟩
            have hX : Below w3.heap.size w3 w4 := nextX (by go_grown) hb
            replace c10 := cellB hX c10
            replace c11 := cellB hX c11
            replace c12 := cellB hX c12
            replace c13 := cellB hX c13
            replace c20 := cellB hX c20
            replace c21 := cellB hX c21
            replace c22 := cellB hX c22
            replace c23 := cellB hX c23
            replace cy0 := cellB hX cy0
            replace cy1 := cellB hX cy1
            have xa0 : w4.cell? ⟨w3.heap.size, 0, none⟩ = some (.int .i64 x1) := cellB hb (by simp [go_sem])
            have xa1 : w4.cell? ⟨w3.heap.size, 1, none⟩ = some (.int .i64 x2) := cellB hb (by simp [go_sem])
            have zxa0 := lt_of_cell xa0
            have zc10 := Nat.lt_of_lt_of_le zc10 hX.size
            have zc20 := Nat.lt_of_lt_of_le zc20 hX.size
            have zcy0 := Nat.lt_of_lt_of_le zcy0 hX.size
            replace hB := Below.trans hB (hX.mono hB.size)
            replace HO := Lib.hid ow
            have hz4 := hB.size
            clear ow hb hX
            have hl4 := insQ_len (x1, x2) (befUpTo (y1, y2) ps k)
            have HE := Lib.hid (show befPc (y1, y2) (((p1, p2), p3, p4), ((q1, q2), q3, q4)) = [(x1, x2)] from by rw [HPC.out]; simp)
            have HOn := Lib.hid (show OwQ W0.heap.size 31 _ _ (befUpTo (y1, y2) ps (k + 1)) from by rw [HSn.out, HE.out]; exact HO.out)
            go_wp2_with fail
            go_roundw
            case rel => exact ⟨k + 1, by omega, by go_num, HOn.out, fineTo_next HPp.out HQq.out HFi.out hbad, hB⟩
            case measure => simp [intOf]; omega
        · go_wp2_with fail
          refine (imPut_is W0.heap.size (befUpTo (y1, y2) ps k) _ q1 q2 _ (HO.out.keep (by go_grown)) (HOk.out) OQ.out (by omega) (by go_size)).mono ?_
          rintro e w3 ⟨r3, rfl, ow, hb⟩
          have hX : Below v2.heap.size v2 w3 := nextX (by go_grown) hb
          replace c10 := cellB hX c10
          replace c11 := cellB hX c11
          replace c12 := cellB hX c12
          replace c13 := cellB hX c13
          replace c20 := cellB hX c20
          replace c21 := cellB hX c21
          replace c22 := cellB hX c22
          replace c23 := cellB hX c23
          replace cy0 := cellB hX cy0
          replace cy1 := cellB hX cy1
          have zc10 := Nat.lt_of_lt_of_le zc10 hX.size
          have zc20 := Nat.lt_of_lt_of_le zc20 hX.size
          have zcy0 := Nat.lt_of_lt_of_le zcy0 hX.size
          replace hB := Below.trans hB (hX.mono hB.size)
          replace HO := Lib.hid ow
          have hz3 := hB.size
          clear ow hb hX
          have hl3 := insQ_len (q1, q2) (befUpTo (y1, y2) ps k)
          have hbad : badPc (y1, y2) (((p1, p2), p3, p4), ((q1, q2), q3, q4)) = false := by unfold badPc; rw [HCr.out]; rfl
          have HE := Lib.hid (show befPc (y1, y2) (((p1, p2), p3, p4), ((q1, q2), q3, q4)) = [(q1, q2)] from by rw [HPC.out]; simp)
          have HOn := Lib.hid (show OwQ W0.heap.size 31 _ _ (befUpTo (y1, y2) ps (k + 1)) from by rw [HSn.out, HE.out]; exact HO.out)
          go_wp2_with fail
          go_roundw
          case rel => exact ⟨k + 1, by omega, by go_num, HOn.out, fineTo_next HPp.out HQq.out HFi.out hbad, hB⟩
          case measure => simp [intOf]; omega
        · have hbad : badPc (y1, y2) (((p1, p2), p3, p4), ((q1, q2), q3, q4)) = false := by unfold badPc; rw [HCr.out]; rfl
          have HE := Lib.hid (show befPc (y1, y2) (((p1, p2), p3, p4), ((q1, q2), q3, q4)) = [] from by rw [HPC.out]; simp)
          have HOn := Lib.hid (show OwQ W0.heap.size 31 _ _ (befUpTo (y1, y2) ps (k + 1)) from by rw [HSn.out, HE.out]; exact HO.out)
          go_wp2_with fail
          go_roundw
          case rel => exact ⟨k + 1, by omega, by go_num, HOn.out, fineTo_next HPp.out HQq.out HFi.out hbad, hB⟩
          case measure => simp [intOf]; omega
    · have b5 : (ps.length : Int) ≤ (k : Int) + 1 := by omega
      have hok : befOk (y1, y2) ps = true := fineTo_all (by omega) HFi.out
      obtain ⟨rfl, rfl⟩ : befQ (y1, y2) ps = l ∧ true = t := by have := HL.out; unfold befRes at this; rw [if_pos hok] at this; exact Prod.mk.inj this
      have HE := Lib.hid (show OwQ W0.heap.size 31 wr u6 (befQ (y1, y2) ps) by have := HO.out; rwa [befUpTo_all _ _ (by omega)] at this)
      clear HO
      go_wp2_with fail
      go_ret2
      exact ⟨_, rfl, HE.out.low (by omega), hBr2⟩

end Go.Proofs.YtkeajfgcjmhmiaaGreat
