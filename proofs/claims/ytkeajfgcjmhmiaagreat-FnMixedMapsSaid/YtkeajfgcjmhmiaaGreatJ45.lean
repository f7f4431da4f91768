/- The reference's GreatestDistance. · Drawn images: DrawImageOf. -/
import Derived.Test.YtkeajfgcjmhmiaaGreatJ34
import Derived.Test.YtkeajfgcjmhmiaaGreatJ16
namespace Go.Proofs.YtkeajfgcjmhmiaaGreat
open Go.RowKit

theorem cutQ_neg (N D : Int) : cutQ (-N) D = cutQ N D := by
  have h : Int.gcd (-N) D = Int.gcd N D := by unfold Int.gcd; rw [Int.natAbs_neg]
  unfold cutQ; rw [h]
theorem lowQ_neg (N D : Int) : lowQ (-N) D = (-(lowQ N D).1, (lowQ N D).2.1, (lowQ N D).2.2) := by
  unfold lowQ
  rw [cutQ_neg, Int.neg_tdiv, okQ_neg]
  split <;> simp
theorem lowQ_sign {N D : Int} (hD : 0 < D) : (0 ≤ N → 0 ≤ (lowQ N D).1) ∧ (N ≤ 0 → (lowQ N D).1 ≤ 0) := by
  have hc : (cutQ N D) = (Int.gcd N D : Int) := by unfold cutQ; rw [if_neg (by omega)]
  have hc0 : (0 : Int) ≤ cutQ N D := by rw [hc]; omega
  unfold lowQ
  constructor
  · intro h
    split
    · exact Int.tdiv_nonneg h hc0
    · exact Int.le_refl _
  · intro h
    split
    · have h2 := Int.tdiv_nonneg (a := -N) (b := cutQ N D) (by omega) hc0
      rw [Int.neg_tdiv] at h2
      show N.tdiv (cutQ N D) ≤ 0
      omega
    · exact Int.le_refl _
/-- The distance is the difference without its sign. -/
theorem absQ_sub {a b : Q} {n d : Int} {t : Bool} (ha : okQ a.1 a.2 = true) (hb : okQ b.1 b.2 = true) (h : lowQ (a.1 * b.2 - b.1 * a.2) (a.2 * b.2) = (n, d, t)) : absQ a b = ((n.natAbs : Int), d, t) := by
  have hD : 0 < a.2 * b.2 := Int.mul_pos (by have := okQ_bd ha; omega) (by have := okQ_bd hb; omega)
  have hs := lowQ_sign (N := a.1 * b.2 - b.1 * a.2) hD
  rw [h] at hs
  simp only at hs
  rw [absQ_low ha hb]
  split
  · rename_i hl
    unfold lessQ at hl
    simp only [decide_eq_true_eq] at hl
    have h2 := hs.2 (by omega)
    have h3 := lowQ_neg (a.1 * b.2 - b.1 * a.2) (a.2 * b.2)
    rw [h, show -(a.1 * b.2 - b.1 * a.2) = b.1 * a.2 - a.1 * b.2 by omega, Int.mul_comm a.2 b.2] at h3
    rw [h3]
    simp only [Prod.mk.injEq, and_true]
    omega
  · rename_i hl
    unfold lessQ at hl
    simp only [decide_eq_true_eq] at hl
    have h2 := hs.1 (by omega)
    rw [h]
    simp only [Prod.mk.injEq, and_true]
    omega

def RelGs (f g : List Pt) (gm : Nat) (W0 : World) (i : Value) (wr : World) : Prop :=
  ∃ k : Nat, k ≤ (bothQ f g).length ∧ i = .int .i64 k ∧ Slot wr gm 0 (.int .i64 (greTo f g k).1.1) ∧ Slot wr gm 1 (.int .i64 (greTo f g k).1.2) ∧ (greTo f g k).2 = false ∧ But gm W0 wr

set_option maxRecDepth 100000 in
set_option maxHeartbeats 6400000 in
theorem sGreatestDistance_is (f g : List Pt) (vf vg : Value) (a b : Int) (t : Bool) (hl : greatQ f g = (a, b, t)) (w : World) (hf : RdP w vf f) (hg : RdP w vg g) (hn : f.length ≤ 1048576) (hk : g.length ≤ 1048576) :
    Calls Tryz.prog 26 #[vf, vg] w (LowEnd a b t w) := by
  have HF := Lib.hid hf
  have HG := Lib.hid hg
  have HL := Lib.hid hl
  rcases hm : (okMap f && okMap g) with _ | _
  · obtain ⟨rfl, rfl, rfl⟩ : 0 = a ∧ 0 = b ∧ false = t := by have := HL.out; unfold greatQ at this; rw [if_neg (by rw [hm]; simp)] at this; simpa using this
    have HM := Lib.hid hm
    clear hf hg hl hm
    go_enter Tryz.func26, Tryz.ntmps26
    go_wp2_with fail
    refine (coTwo_is f g _ _ false HM.out _ (HF.out.keep (by go_grown)) (HG.out.keep (by go_grown)) hn hk).mono ?_
    rintro e w1 ⟨rfl, hb⟩
    have hX : Below w.heap.size w w1 := nextX (by go_grown) hb
    have r00 : Slot w1 (w.heap.size) 0 (.int .i64 0) := slotB hb ⟨by simp [go_sem], by simp [go_sem]⟩
    have r01 : Slot w1 (w.heap.size) 1 (.int .i64 0) := slotB hb ⟨by simp [go_sem], by simp [go_sem]⟩
    have zr00 := lt_of_cell r00.1
    have hB : Below w.heap.size w w1 := hX
    clear hb hX
    obtain ⟨q0, k0⟩ := r00
    obtain ⟨q1, k1⟩ := r01
    go_wp2_with fail
    refine bodyPost_ret (v := .tuple #[.agg #[.int .i64 0, .int .i64 0], .bool false]) (by first | (simp [results, Tryz.results26, go_sem, q0, q1]; done) | (simp [results, Tryz.results26, go_sem, q0, q1, zr00]; done)) rfl ⟨rfl, ?_⟩
    go_grown
  · have HM := Lib.hid hm
    have MF : okMap f = true := by simp at hm; exact hm.1
    have MG : okMap g = true := by simp at hm; exact hm.2
    have HMF := Lib.hid MF
    have HMG := Lib.hid MG
    have hpos := bothQ_pos (g := g) MF
    have l1 := okMap_len MF
    have l2 := okMap_len MG
    have hbl := bothQ_len f g
    have HUn := Lib.hid (bothQ_unit MF MG)
    obtain ⟨⟨ra, rb, tt⟩, hcv⟩ : ∃ r, cvQ f g = r := ⟨_, rfl⟩
    have HCv := Lib.hid hcv
    have hab : (if (allFine f g && !(greTo f g (bothQ f g).length).2) = true then ((greTo f g (bothQ f g).length).1.1, (greTo f g (bothQ f g).length).1.2, true) else (0, 0, false)) = (a, b, t) := by have := HL.out; unfold greatQ at this; rwa [if_pos hm] at this
    have HAB := Lib.hid hab
    clear hf hg hl hm MF MG hcv hab
    go_enter Tryz.func26, Tryz.ntmps26
    go_wp2_with fail
    refine (coTwo_is f g _ _ true HM.out _ (HF.out.keep (by go_grown)) (HG.out.keep (by go_grown)) hn hk).mono ?_
    rintro e w1 ⟨rfl, hb⟩
    have hX : Below w.heap.size w w1 := nextX (by go_grown) hb
    have r00 : Slot w1 (w.heap.size) 0 (.int .i64 0) := slotB hb ⟨by simp [go_sem], by simp [go_sem]⟩
    have r01 : Slot w1 (w.heap.size) 1 (.int .i64 0) := slotB hb ⟨by simp [go_sem], by simp [go_sem]⟩
    have zr00 := lt_of_cell r00.1
    have hB : Below w.heap.size w w1 := hX
    clear hb hX
    go_wp2_with fail
    refine (coValues_is f g _ _ ra rb tt HCv.out _ (HF.out.keep (nextX hB (by go_grown))) (HG.out.keep (nextX hB (by go_grown))) HMF.out HMG.out).mono ?_
    rintro e w2 ⟨r, s, rfl, owr, ows, hb⟩
    have hX : Below w1.heap.size w1 w2 := nextX (by go_grown) hb
    replace r00 := slotB hX r00
    replace r01 := slotB hX r01
    have zr00 := Nat.lt_of_lt_of_le zr00 hX.size
    replace hB := nextW hB hX
    clear hb hX
    rcases hfa : allFine f g with _ | _
    · obtain ⟨rfl, rfl, rfl⟩ : [] = ra ∧ [] = rb ∧ false = tt := by have := HCv.out; unfold cvQ at this; rw [if_neg (by rw [hfa]; simp)] at this; simpa using this
      obtain ⟨rfl, rfl, rfl⟩ : 0 = a ∧ 0 = b ∧ false = t := by have := HAB.out; rw [hfa, Bool.false_and, if_neg (by simp)] at this; simpa using this
      clear owr ows
      obtain ⟨q0, k0⟩ := r00
      obtain ⟨q1, k1⟩ := r01
      go_wp2_with fail
      refine bodyPost_ret (v := .tuple #[.agg #[.int .i64 0, .int .i64 0], .bool false]) (by first | (simp [results, Tryz.results26, go_sem, q0, q1]; done) | (simp [results, Tryz.results26, go_sem, q0, q1, zr00]; done)) rfl ⟨rfl, ?_⟩
      go_grown
    · obtain ⟨rfl, rfl, rfl⟩ : valA f g = ra ∧ valB f g = rb ∧ true = tt := by have := HCv.out; unfold cvQ at this; rw [if_pos hfa] at this; simpa using this
      rw [hfa, Bool.true_and] at HAB
      obtain ⟨g1, cap1, rfl, hc1, hc2, -, hg1, hcell1⟩ := owr.lit (n := (bothQ f g).length) (by unfold valA; simp) hpos
      obtain ⟨g2, cap2, rfl, hd1, hd2, -, hg2, hcell2⟩ := ows.lit (n := (bothQ f g).length) (by unfold valB; simp) hpos
      unfold maxLen at hc2 hd2
      have HC1 := Lib.hid hcell1
      have HC2 := Lib.hid hcell2
      clear owr ows hcell1 hcell2
      go_wp2_with fail
      refine (raInt_any 0 _).mono ?_
      rintro e w3 ⟨rfl, hb⟩
      have hX : Below w2.heap.size w2 w3 := nextX (by go_grown) hb
      have hX23 := hX
      have hw23 := hX.size
      replace r00 := slotB hX r00
      replace r01 := slotB hX r01
      have zr00 := Nat.lt_of_lt_of_le zr00 hX.size
      replace hB := nextW hB hX
      clear hb hX
      have zg1 : g1 < w3.heap.size := Nat.lt_of_lt_of_le hg1 hw23
      have zg2 : g2 < w3.heap.size := Nat.lt_of_lt_of_le hg2 hw23
      replace HC1 := Lib.hid (fun i q hq => And.intro (cellB hX23 (HC1.out i q hq).1) (cellB hX23 (HC1.out i q hq).2))
      replace HC2 := Lib.hid (fun i q hq => And.intro (cellB hX23 (HC2.out i q hq).1) (cellB hX23 (HC2.out i q hq).2))
      have RR := Lib.hid (And.intro r00 r01)
      clear r00 r01
      go_wp2_with fail
      go_name_world W0 hW
      have hX : Below w3.heap.size w3 W0 := by rw [← hW]; go_grown
      have sm : Slot W0 w3.heap.size 0 (.int .i64 0) ∧ Slot W0 w3.heap.size 1 (.int .i64 1) := by rw [← hW]; exact slotNew _ _ _ _
      have SM := Lib.hid sm
      have HD1 := Lib.hid (fun i q hq => And.intro (cellB hX (HC1.out i q hq).1) (cellB hX (HC1.out i q hq).2))
      have HD2 := Lib.hid (fun i q hq => And.intro (cellB hX (HC2.out i q hq).1) (cellB hX (HC2.out i q hq).2))
      have zr := lt_of_cell RR.out.1.1
      replace RR := Lib.hid (And.intro (slotB hX RR.out.1) (slotB hX RR.out.2))
      replace hB := nextW hB hX
      have zB := lt_of_cell sm.1.1
      generalize hgm : w3.heap.size = gm at *
      clear hW hX hgm sm HC1 HC2
      go_loopw [31] (fun i wr => RelGs f g gm W0 i wr) (fun i _ => (bothQ f g).length - (intOf i).toNat)
      case atStart => exact ⟨0, Nat.zero_le _, rfl, SM.out.1, SM.out.2, rfl, But.refl _ _⟩
      case round =>
        obtain ⟨k, hk2, rfl, sm0, sm1, hno, hbu⟩ := hrel
        have hzr2 := hbu.size
        have hBr : Below w.heap.size w wr := ⟨hbu.os.trans hB.os, hbu.tape.trans hB.tape, hbu.output.trans hB.output, Nat.le_trans hB.size hbu.size, fun b hb => (hbu.block b (by have := hB.size; omega) (by omega)).trans (hB.block b hb)⟩
        have rr0 := slotU hbu (by omega) RR.out.1
        have rr1 := slotU hbu (by omega) RR.out.2
        by_cases hlt : k < (bothQ f g).length
        · have hx := List.getElem?_eq_getElem hlt
          generalize (bothQ f g)[k] = x at *
          have hya : (valA f g)[k]? = some (valQ f x).1 := by unfold valA; rw [List.getElem?_map, hx]; rfl
          have hyb : (valB f g)[k]? = some (valQ g x).1 := by unfold valB; rw [List.getElem?_map, hx]; rfl
          have ux := HUn.out _ (List.mem_of_getElem? hx)
          have uf := unitQ_ok (valQ_unit (x := x) HMF.out ux)
          have ug := unitQ_ok (valQ_unit (x := x) HMG.out ux)
          have hnx := greTo_next hx
          have hmo := farN_ok (valA f g) (valB f g) k
          rw [show farN (valA f g) (valB f g) k = greTo f g k from rfl] at hmo
          obtain ⟨c0, c1⟩ := HD1.out k _ hya
          obtain ⟨d0, d1⟩ := HD2.out k _ hyb
          rcases hy : (valQ f x).1 with ⟨y1, y2⟩
          rcases hz : (valQ g x).1 with ⟨z1, z2⟩
          rcases hm : greTo f g k with ⟨⟨m1, m2⟩, mb⟩
          rcases hsu : lowQ (y1 * z2 - z1 * y2) (y2 * z2) with ⟨n, d, td⟩
          simp only [hy, hz, hm] at c0 c1 d0 d1 uf ug hnx hmo sm0 sm1 hno
          subst hno
          have hab := absQ_sub (a := (y1, y2)) (b := (z1, z2)) uf ug hsu
          rw [hab] at hnx
          have hks := keepAbs_ok (y1, y2) (z1, z2)
          rw [hab] at hks
          have hdn := Sm.of_low hsu
          replace c0 := cellU hbu (by omega) c0
          replace c1 := cellU hbu (by omega) c1
          replace d0 := cellU hbu (by omega) d0
          replace d1 := cellU hbu (by omega) d1
          have HSu := Lib.hid (fun W => raSub_any y1 y2 z1 z2 n d td (Sm.of_ok uf).1 (Sm.of_ok uf).2 (Sm.of_ok ug).1 (Sm.of_ok ug).2 hsu W)
          have HNx := Lib.hid hnx
          have HKs := Lib.hid hks
          have HDn := Lib.hid hdn
          have SMm := Lib.hid (Sm.of_ok hmo)
          have S0 := Lib.hid sm0
          have S1 := Lib.hid sm1
          have RQ := Lib.hid (And.intro rr0 rr1)
          have zgm := lt_of_cell sm0.1
          have kL : Facts [(g1, k * 2, .int .i64 y1), (g1, k * 2 + 1, .int .i64 y2), (g2, k * 2, .int .i64 z1), (g2, k * 2 + 1, .int .i64 z2)] wr := ⟨c0, c1, d0, d1⟩
          have b0 : (0 : Int) ≤ (k : Int) := by omega
          have b1 : (k : Int) < ((bothQ f g).length : Int) := by omega
          have v2 : IntKind.i64.wrap ((k : Int) + 1) = (k : Int) + 1 := IntWalk.i64_in _ (by omega)
          have v3 : IntKind.i64.wrap (k : Int) = (k : Int) := IntWalk.i64_in _ (by omega)
          clear hx hya hyb ux uf ug hnx hmo hy hz hm hsu hab hks hdn sm0 sm1 rr0 rr1 c0 c1 d0 d1
          go_wp2_with fail
          go_cut [11, 12] (fun s11 s12 wx => VarQ wx s11 wr.heap.size n d ∧ s12 = .bool td ∧ Below wr.heap.size wr wx)
          case first =>
            go_region_held3 (fun w' => w'.cell? ⟨g1, k * 2, none⟩ = some (.int .i64 y1) ∧ w'.cell? ⟨g1, k * 2 + 1, none⟩ = some (.int .i64 y2) ∧ w'.cell? ⟨g2, k * 2, none⟩ = some (.int .i64 z1) ∧ w'.cell? ⟨g2, k * 2 + 1, none⟩ = some (.int .i64 z2))
              ((refine Facts.keep kL ?_; go_grown; done))
              ((first
                | (go_at_call 94; (with_reducible refine (HSu.out _).mono ?_); rintro e w5 ⟨rfl, hb5⟩; have hX5 : Below wr.heap.size wr w5 := nextX (by go_grown) hb5; have z5 := hX5.size; (first | (with_reducible have n5 := fresh2 hb5) | (with_reducible have n5 := fresh2D hb5) | skip); (first | obtain ⟨⟨p0, f0⟩, p5, f5⟩ := n5 | skip))))
            all_goals (go_wp2_with fail; go_meet; first
              | exact ⟨VarQ.made (by omega) _ _ _, rfl, by go_grown⟩
              | exact ⟨VarQ.stored ⟨p0, f0⟩ ⟨p5, f5⟩ (by omega) _ _, rfl, by go_grown⟩)
          case rest =>
            obtain ⟨⟨g11, rfl, hg11, sg0, sg1⟩, rfl, hX⟩ := hcut
            have sm0 := slotB hX S0.out
            have sm1 := slotB hX S1.out
            have rr0 := slotB hX RQ.out.1
            have rr1 := slotB hX RQ.out.2
            have hbu2 : But gm W0 wc := hbu.trans (But.of_below hX (Nat.le_refl _))
            have hBc := nextW hBr hX
            have hzc := hX.size
            have zg := lt_of_cell sg0.1
            clear kL hX
            rcases td with _ | _
            · have hbad : (greTo f g (bothQ f g).length).2 = true := by
                have h1 : (greTo f g (k + 1)).2 = true := by rw [HNx.out]; rfl
                have h2 := farN_bad h1 ((bothQ f g).length - (k + 1))
                rwa [show k + 1 + ((bothQ f g).length - (k + 1)) = (bothQ f g).length by omega] at h2
              obtain ⟨rfl, rfl, rfl⟩ : 0 = a ∧ 0 = b ∧ false = t := by have := HAB.out; rw [hbad, if_neg (by simp)] at this; simpa using this
              obtain ⟨z0, kz0⟩ := rr0
              obtain ⟨z1, kz1⟩ := rr1
              have zz := lt_of_cell z0
              clear sm0 sm1 sg0 sg1 hbad hbu2
              go_wp2_with fail
              refine bodyPost_ret (v := .tuple #[.agg #[.int .i64 0, .int .i64 0], .bool false]) (by simp [results, Tryz.results26, go_sem, z0, z1]) rfl ⟨rfl, ?_⟩
              go_grown
            · have hkq : keepQ ((n.natAbs : Int), d, true) = ((n.natAbs : Int), d) := rfl
              have hks := HKs.out
              have hnx := HNx.out
              rw [hkq] at hks hnx
              simp only [Bool.not_true, Bool.or_false] at hnx
              unfold bigQ at hnx
              simp only at hnx
              obtain ⟨y, hyy⟩ : ∃ y, cmpQ m1 m2 (n.natAbs : Int) d = y := ⟨_, rfl⟩
              rw [lessQ_cmp' _ _ _ _ _ hyy] at hnx
              have HRc := Lib.hid (fun W => raCmp_is m1 m2 (n.natAbs : Int) d y SMm.out (Sm.of_ok hks) hyy W)
              have HN2 := Lib.hid hnx
              have hnb := HDn.out.1
              have M0 := Lib.hid sm0
              have M1 := Lib.hid sm1
              have G0 := Lib.hid sg0
              have G1 := Lib.hid sg1
              obtain ⟨m0, -⟩ := sm0
              obtain ⟨m9, -⟩ := sm1
              obtain ⟨e0, ef0⟩ := sg0
              obtain ⟨e1, ef1⟩ := sg1
              have hne1 : gm ≠ g11 := by omega
              have hne2 : g11 ≠ gm := by omega
              clear hkq hks hnx hyy rr0 rr1
              go_wp2_with fail
              refine (l1Abs_any n (by unfold Sm at hnb; omega) _).mono ?_
              rintro e w7 ⟨rfl, h7⟩
              subst h7
              go_wp2_with fail
              refine (HRc.out _).mono ?_
              rintro e w8 ⟨rfl, hb8⟩
              have sm0 := slotB hb8 (slotS (u := .int .i64 (n.natAbs : Int)) M0.out (show (g11, 0) ≠ (gm, 0) by simp; omega))
              have sm1 := slotB hb8 (slotS (u := .int .i64 (n.natAbs : Int)) M1.out (show (g11, 0) ≠ (gm, 1) by simp))
              have sg0 := slotB hb8 (slotN (u := .int .i64 (n.natAbs : Int)) G0.out)
              have sg1 := slotB hb8 (slotS (u := .int .i64 (n.natAbs : Int)) G1.out (show (g11, 0) ≠ (g11, 1) by simp))
              have hbu8 : But gm W0 w8 := (But.setNew hbu2 (by omega) (.int .i64 (n.natAbs : Int))).trans (But.of_below hb8 (Nat.le_refl _))
              clear hb8 m0 m9 e0 ef0 e1 ef1 hbu2
              by_cases hy0 : y < 0
              · have dy : decide (y < (0 : Int)) = true := by simpa using hy0
                have hff := HN2.out
                rw [dy] at hff
                simp only [if_true] at hff
                have HFF := Lib.hid hff
                have HSt := Lib.hid (stored2 sm0 sm1 (.int .i64 (n.natAbs : Int)) (.int .i64 d))
                have HBu := Lib.hid hbu8
                obtain ⟨m0, mf0⟩ := sm0
                obtain ⟨m9, mf1⟩ := sm1
                obtain ⟨e0, -⟩ := sg0
                obtain ⟨e1, -⟩ := sg1
                clear hff hbu8
                go_wp2_with fail
                go_roundw
                case rel =>
                  refine ⟨k + 1, by omega, by go_num, ?_, ?_, by rw [HFF.out], ((HBu.out.setCell _).setCell _)⟩
                  · rw [HFF.out]; exact HSt.out.1
                  · rw [HFF.out]; exact HSt.out.2
                case measure => simp [intOf]; omega
              · have dy : decide (y < (0 : Int)) = false := by simpa using hy0
                have hff := HN2.out
                rw [dy] at hff
                simp only [Bool.false_eq_true, if_false] at hff
                have HFF := Lib.hid hff
                have HBu := Lib.hid hbu8
                have H0 := Lib.hid sm0
                have H1 := Lib.hid sm1
                clear hff hbu8 sm0 sm1 sg0 sg1
                go_wp2_with fail
                go_roundw
                case rel =>
                  refine ⟨k + 1, by omega, by go_num, ?_, ?_, by rw [HFF.out], HBu.out⟩
                  · rw [HFF.out]; exact H0.out
                  · rw [HFF.out]; exact H1.out
                case measure => simp [intOf]; omega
        · obtain rfl : k = (bothQ f g).length := by omega
          rcases hm : greTo f g (bothQ f g).length with ⟨⟨m1, m2⟩, mb⟩
          rw [hm] at sm0 sm1 hno HAB
          simp only at hno
          subst hno
          obtain ⟨rfl, rfl, rfl⟩ : m1 = a ∧ m2 = b ∧ true = t := by have := HAB.out; rw [if_pos (by rfl)] at this; simpa using this
          obtain ⟨z0, kz0⟩ := rr0
          obtain ⟨z1, kz1⟩ := rr1
          have h0 := sm0.1
          have h1 := sm1.1
          have zz := lt_of_cell z0
          simp only at h0 h1
          clear sm0 sm1
          go_wp2_with fail
          refine bodyPost_ret (v := .tuple #[.agg #[.int .i64 m1, .int .i64 m2], .bool true]) (by simp [results, Tryz.results26, go_sem, z0, z1]) rfl ⟨rfl, ?_⟩
          go_grown

end Go.Proofs.YtkeajfgcjmhmiaaGreat

namespace Go.Proofs.YtkeajfgcjmhmiaaGreat
open Go.RowKit

def RowRats (w : World) (e : Ending) (w' : World) : Prop := ∃ (r : Value) (ps : List Pt) (a b c d : Int), e = .returned (.tuple #[r, .agg #[.int .i64 a, .int .i64 b], .agg #[.int .i64 c, .int .i64 d]]) ∧ OwP w.heap.size 51 w' r ps ∧ ps.length ≤ 62 ∧ Below w.heap.size w w'
theorem slotPut4 {X : World} {g o : Nat} {v u : Value} (h : Slot X g o v) : Slot (X.setCell ⟨g, o, none⟩ u) g o u := by
  obtain ⟨h0, h1⟩ := h
  exact ⟨by simp [go_sem, h0], by simp [go_sem, h1]⟩
theorem slotNot4 {X : World} {g b o i : Nat} {v u : Value} (h : Slot X b o v) (hn : g ≠ b) : Slot (X.setCell ⟨g, i, none⟩ u) b o v := slotS h (fun e => hn (Prod.mk.inj e).1)
theorem slotOff4 {X : World} {g o i : Nat} {v u : Value} (h : Slot X g o v) (hn : i ≠ o) : Slot (X.setCell ⟨g, i, none⟩ u) g o v := slotS h (fun e => hn (Prod.mk.inj e).2)
theorem fourV {X : World} {g0 g1 : Nat} {u0 u1 u2 u3 a b c d : Value} (h01 : g0 ≠ g1) (s0 : Slot X g0 0 u0) (s1 : Slot X g0 1 u1) (s2 : Slot X g1 0 u2) (s3 : Slot X g1 1 u3) :
    ((((X.setCell ⟨g0, 0, none⟩ a).setCell ⟨g0, 1, none⟩ b).setCell ⟨g1, 0, none⟩ c).setCell ⟨g1, 1, none⟩ d).cell? ⟨g0, 0, none⟩ = some a ∧
    ((((X.setCell ⟨g0, 0, none⟩ a).setCell ⟨g0, 1, none⟩ b).setCell ⟨g1, 0, none⟩ c).setCell ⟨g1, 1, none⟩ d).cell? ⟨g0, 1, none⟩ = some b ∧
    ((((X.setCell ⟨g0, 0, none⟩ a).setCell ⟨g0, 1, none⟩ b).setCell ⟨g1, 0, none⟩ c).setCell ⟨g1, 1, none⟩ d).cell? ⟨g1, 0, none⟩ = some c ∧
    ((((X.setCell ⟨g0, 0, none⟩ a).setCell ⟨g0, 1, none⟩ b).setCell ⟨g1, 0, none⟩ c).setCell ⟨g1, 1, none⟩ d).cell? ⟨g1, 1, none⟩ = some d :=
  ⟨(slotNot4 (slotNot4 (slotOff4 (slotPut4 s0) (by decide)) h01.symm) h01.symm).1, (slotNot4 (slotNot4 (slotPut4 (slotOff4 s1 (by decide))) h01.symm) h01.symm).1,
    (slotOff4 (slotPut4 (slotNot4 (slotNot4 s2 h01) h01)) (by decide)).1, (slotPut4 (slotOff4 (slotNot4 (slotNot4 s3 h01) h01) (by decide))).1⟩

end Go.Proofs.YtkeajfgcjmhmiaaGreat
