/- The program's fixed points of a map. -/
import Derived.Test.YtkeajfgcjmhmiaaGreatFixA
import Derived.Test.YtkeajfgcjmhmiaaGreatRisE
namespace Go.Proofs.YtkeajfgcjmhmiaaGreat
open Go.RowKit

theorem fixA_snoc {ps : List Pt} {k : Nat} {p : Pt} (h : ps[k]? = some p) : fixA (ps.take (k + 1)) = fixA (ps.take k) ++ (if p.1 = p.2 then [p.1] else []) := by
  rw [take_snoc_get h]
  unfold fixA
  rw [List.filter_append, List.map_append]
  by_cases e : p.1 = p.2
  · rw [if_pos e]; simp [e]
  · rw [if_neg e]; simp [e]
theorem fixB_snoc {ps : List Pt} {k : Nat} {p q : Pt} (hp : ps[k]? = some p) (hq : ps[k + 1]? = some q) : fixB ((pcs ps).take (k + 1)) = fixB ((pcs ps).take k) ++ (if crossF p q = true then [((betwQ p q).1, (betwQ p q).2.1)] else []) := by
  rw [take_snoc_get (pcs_get hp hq)]
  unfold fixB
  rw [List.filter_append, List.map_append]
  by_cases e : crossF p q = true
  · rw [if_pos e]; simp [e]
  · rw [if_neg e]; simp [e]
theorem fixA_len (ps : List Pt) : (fixA ps).length ≤ ps.length := by
  unfold fixA; rw [List.length_map]; exact List.length_filter_le _ _
theorem fixB_len (cs : List (Pt × Pt)) : (fixB cs).length ≤ cs.length := by
  unfold fixB; rw [List.length_map]; exact List.length_filter_le _ _

/-- A variable that holds a point: a block of its own. -/
def VarP (wx : World) (s : Value) (lo : Nat) (a b c d : Int) : Prop := ∃ g, s = .pointer (some ⟨g, 0, none⟩) ∧ lo ≤ g ∧ wx.cell? ⟨g, 0, none⟩ = some (.int .i64 a) ∧ wx.cell? ⟨g, 1, none⟩ = some (.int .i64 b) ∧ wx.cell? ⟨g, 2, none⟩ = some (.int .i64 c) ∧ wx.cell? ⟨g, 3, none⟩ = some (.int .i64 d)
theorem cross_le (p q : Pt) : -1 ≤ cmpQ p.1.1 p.1.2 p.2.1 p.2.2 * cmpQ q.1.1 q.1.2 q.2.1 q.2.2 ∧ cmpQ p.1.1 p.1.2 p.2.1 p.2.2 * cmpQ q.1.1 q.1.2 q.2.1 q.2.2 ≤ 1 := by
  rcases cmpQ_abs p.1.1 p.1.2 p.2.1 p.2.2 with h | h | h <;> rcases cmpQ_abs q.1.1 q.1.2 q.2.1 q.2.2 with k | k | k <;> rw [h, k] <;> decide

def RelFa (ps : List Pt) (h : Nat) (W0 : World) (out i : Value) (wr : World) : Prop :=
  ∃ k : Nat, k ≤ ps.length ∧ i = .int .i64 k ∧ OwQ h 31 wr out (fixA (ps.take k)) ∧ Below h W0 wr
def RelFb (ps : List Pt) (h : Nat) (W0 : World) (out i : Value) (wr : World) : Prop :=
  ∃ k : Nat, k + 1 ≤ ps.length ∧ i = .int .i64 (k + 1) ∧ OwQ h 31 wr out (fixA ps ++ fixB ((pcs ps).take k)) ∧ Below h W0 wr

set_option maxRecDepth 100000 in
set_option maxHeartbeats 6400000 in
theorem fixed_is (ps : List Pt) (v : Value) (w : World) (hv : RdP w v ps) (hm : okMap ps = true) :
    Calls Tryz.prog 131 #[v] w (RetQ w (fixQ ps)) := by
  have hn := okMap_len hm
  have HM := Lib.hid hm
  obtain ⟨A, c, rfl, hl, hmx, hcell⟩ := hv
  unfold maxLen at hmx
  obtain ⟨g, o, rfl, hg, hc⟩ := hcell (by intro h; rw [h] at hn; simp at hn)
  have HC := Lib.hid hc
  have HPl := Lib.hid (pcs_len ps)
  have HBl := Lib.hid (fun k => fixB_len ((pcs ps).take k))
  have HAl := Lib.hid (fixA_len ps)
  clear hcell hc hm
  go_enter Tryz.func131, Tryz.ntmps131
  go_wp2_with fail
  go_name_world W0 hW
  have hB0 : Below w.heap.size w W0 := by rw [← hW]; go_grown
  clear hW
  go_loopw [3, 11] (fun out i wr => RelFa ps w.heap.size W0 out i wr) (fun _ i _ => ps.length - (intOf i).toNat)
  case atStart => exact ⟨0, by omega, rfl, World.ownsRow_nil _ _ _ _, Below.refl _ _⟩
  case round =>
    obtain ⟨k, hk, rfl, hown, hb⟩ := hrel
    have HO := Lib.hid hown
    have hBr := Below.trans hB0 hb
    have hzr := hBr.size
    clear hown
    by_cases hlt : k < ps.length
    · have hp := List.getElem?_eq_getElem hlt
      generalize ps[k] = p at *
      obtain ⟨c0, c1, c2, c3⟩ := HC.out k _ hp
      have HSn := Lib.hid (fixA_snoc hp)
      have HLn := Lib.hid (fixA_len (ps.take k))
      obtain ⟨⟨p1, p2⟩, p3, p4⟩ := p
      replace c0 := cellB hBr c0
      replace c1 := cellB hBr c1
      replace c2 := cellB hBr c2
      replace c3 := cellB hBr c3
      have b0 : (0 : Int) ≤ (k : Int) := by omega
      have b1 : (k : Int) < (ps.length : Int) := by omega
      have v2 : IntKind.i64.wrap ((k : Int) + 1) = (k : Int) + 1 := IntWalk.i64_in _ (by omega)
      have v3 : IntKind.i64.wrap (k : Int) = (k : Int) := IntWalk.i64_in _ (by omega)
      clear hp
      by_cases he : ((p1, p2) : Q) = (p3, p4)
      · have HE := Lib.hid (show fixA (ps.take (k + 1)) = fixA (ps.take k) ++ [(p1, p2)] by rw [HSn.out, if_pos he])
        simp only [Prod.mk.injEq] at he
        obtain ⟨rfl, rfl⟩ := he
        go_wp2_with (at_builtin; refine append_q1 _ rfl _ _ rfl w.heap.size _ (fixA (ps.take k)) rfl ?own _ _ p1 p2 rfl ?c0 ?c1 ?len ?base ?_)
        case own => exact HO.out.keep (by go_grown)
        case len => have := HLn.out; rw [List.length_take] at this; omega
        case base => go_size
        intro v' w' hown h7
        have hB : Below w.heap.size W0 w' := Below.trans (by go_grown) h7
        have HO2 := Lib.hid hown
        clear h7 hown HO c0 c1 c2 c3
        go_wp2_with fail
        go_roundw
        case rel => exact ⟨k + 1, by omega, by go_num, by rw [HE.out]; exact HO2.out, hB⟩
        case measure => simp [intOf]; omega
      · have HE := Lib.hid (show fixA (ps.take (k + 1)) = fixA (ps.take k) by rw [HSn.out, if_neg he, List.append_nil])
        have hor := q_or he
        clear he
        rcases hor with e1 | ⟨e1, e2⟩
        all_goals
          go_wp2_with fail
          go_roundw
        all_goals first
          | exact ⟨k + 1, by omega, by go_num, by rw [HE.out]; exact HO.out.keep (by go_grown), by go_grown⟩
          | (simp [intOf]; omega)
    · obtain rfl : k = ps.length := by omega
      have HE := Lib.hid (show OwQ w.heap.size 31 wr u3 (fixA ps ++ fixB ((pcs ps).take 0)) by have := HO.out; rw [List.take_length] at this; simpa [fixB] using this)
      clear HO
      go_wp2_with fail
      go_name_world V0 hV
      rw [hV] at HE hBr
      clear hV hb hzr
      go_loopw [3, 6] (fun out i ws => RelFb ps w.heap.size V0 out i ws) (fun _ i _ => ps.length - (intOf i).toNat)
      case atStart => exact ⟨0, by omega, rfl, HE.out, Below.refl _ _⟩
      case round =>
        obtain ⟨k, hk, rfl, hown, hb2⟩ := hrel
        have HO := Lib.hid hown
        have hBr2 := Below.trans hBr hb2
        have hzr2 := hBr2.size
        have b2 := HBl.out k
        have b2' := HAl.out
        rw [List.length_take] at b2
        clear hown hBr HE
        by_cases hlt : k + 1 < ps.length
        · have hp := List.getElem?_eq_getElem (show k < ps.length by omega)
          have hq := List.getElem?_eq_getElem hlt
          have hcp := okMap_coord HM.out hp
          have hcq := okMap_coord HM.out hq
          generalize ps[k] = p at *
          generalize ps[k + 1] = q at *
          obtain ⟨c0, c1, c2, c3⟩ := HC.out k _ hp
          obtain ⟨d0, d1, d2, d3⟩ := HC.out (k + 1) _ hq
          have HSn := Lib.hid (fixB_snoc hp hq)
          obtain ⟨⟨p1, p2⟩, p3, p4⟩ := p
          obtain ⟨⟨q1, q2⟩, q3, q4⟩ := q
          have HP := Lib.hid (show CoP ((p1, p2), p3, p4) from hcp)
          have HQ := Lib.hid (show CoP ((q1, q2), q3, q4) from hcq)
          have kL : Facts [(g, o + k * 4, Value.int .i64 p1), (g, o + k * 4 + 1, Value.int .i64 p2), (g, o + k * 4 + 2, Value.int .i64 p3), (g, o + k * 4 + 3, Value.int .i64 p4), (g, o + (k + 1) * 4, Value.int .i64 q1), (g, o + (k + 1) * 4 + 1, Value.int .i64 q2), (g, o + (k + 1) * 4 + 2, Value.int .i64 q3), (g, o + (k + 1) * 4 + 3, Value.int .i64 q4)] wr := Facts.keepB (W := w) (B := w.heap.size) (show Facts [_, _, _, _, _, _, _, _] w from ⟨c0, c1, c2, c3, d0, d1, d2, d3⟩) hBr2 (by simp; omega)
          have b0 : (0 : Int) ≤ (k : Int) := by omega
          have b1 : (k : Int) + 1 < (ps.length : Int) := by omega
          have b1' : (k : Int) < (ps.length : Int) := by omega
          have b3 : (0 : Int) ≤ (k : Int) + 1 := by omega
          have t2 : ((k : Int) + 1).toNat = k + 1 := by omega
          have v2 : IntKind.i64.wrap ((k : Int) + 1) = (k : Int) + 1 := IntWalk.i64_in _ (by omega)
          have v3 : IntKind.i64.wrap (k : Int) = (k : Int) := IntWalk.i64_in _ (by omega)
          have v4 : IntKind.i64.wrap ((k : Int) + 1 + 1) = (k : Int) + 1 + 1 := IntWalk.i64_in _ (by omega)
          have hcl := cross_le ((p1, p2), p3, p4) ((q1, q2), q3, q4)
          obtain ⟨⟨x1, x2, xt⟩, hx⟩ : ∃ x, betwQ ((p1, p2), p3, p4) ((q1, q2), q3, q4) = x := ⟨_, rfl⟩
          have hcr : crossF ((p1, p2), p3, p4) ((q1, q2), q3, q4) = decide (cmpQ p1 p2 p3 p4 * cmpQ q1 q2 q3 q4 < 0) := rfl
          simp only at hcl
          obtain ⟨u, hu⟩ : ∃ u, cmpQ p1 p2 p3 p4 = u := ⟨_, rfl⟩
          obtain ⟨y, hy⟩ : ∃ y, cmpQ q1 q2 q3 q4 = y := ⟨_, rfl⟩
          have s1 := Sm.of_ok (unitQ_ok (coordQ_unit hcp.1))
          have s2 := Sm.of_ok (unitQ_ok (coordQ_unit hcp.2))
          have s3 := Sm.of_ok (unitQ_ok (coordQ_unit hcq.1))
          have s4 := Sm.of_ok (unitQ_ok (coordQ_unit hcq.2))
          have HU := Lib.hid (fun W => compare_any p1 p2 p3 p4 s1.1 s1.2 s2.1 s2.2 W)
          have HY := Lib.hid (fun W => compare_any q1 q2 q3 q4 s3.1 s3.2 s4.1 s4.2 W)
          rw [hu] at HU hcl hcr
          rw [hy] at HY hcl hcr
          have v5 : IntKind.i64.wrap (u * y) = u * y := IntWalk.i64_in _ (by omega)
          have HX := Lib.hid hx
          have HCr := Lib.hid hcr
          clear hp hq hcp hcq c0 c1 c2 c3 d0 d1 d2 d3 s1 s2 s3 s4 hu hy hx hcr hcl
          go_wp2_with fail
          go_name_world W1 hW1
          have hX1 : Below wr.heap.size wr W1 := by rw [← hW1]; go_grown
          replace kL := kL.keep hX1
          have HO1 := Lib.hid (HO.out.keep hX1)
          have hB1 := Below.trans hb2 (hX1.mono hzr2)
          clear hW1 HO
          go_cut [7, 8] (fun s7 s8 wx => VarP wx s7 W1.heap.size p1 p2 p3 p4 ∧ VarP wx s8 W1.heap.size q1 q2 q3 q4 ∧ Below W1.heap.size W1 wx)
          case first =>
            go_region_held3 (fun w' => w'.cell? ⟨g, o + k * 4, none⟩ = some (.int .i64 p1) ∧ w'.cell? ⟨g, o + k * 4 + 1, none⟩ = some (.int .i64 p2) ∧ w'.cell? ⟨g, o + k * 4 + 2, none⟩ = some (.int .i64 p3) ∧ w'.cell? ⟨g, o + k * 4 + 3, none⟩ = some (.int .i64 p4) ∧ w'.cell? ⟨g, o + (k + 1) * 4, none⟩ = some (.int .i64 q1) ∧ w'.cell? ⟨g, o + (k + 1) * 4 + 1, none⟩ = some (.int .i64 q2) ∧ w'.cell? ⟨g, o + (k + 1) * 4 + 2, none⟩ = some (.int .i64 q3) ∧ w'.cell? ⟨g, o + (k + 1) * 4 + 3, none⟩ = some (.int .i64 q4))
              ((first | (refine Facts.keep kL ?_; go_grown; done) | (refine Facts.put (Facts.keep kL ?_) ?_ <;> first | (go_grown; done) | (simp; omega)) | (refine Facts.put (Facts.put (Facts.keep kL ?_) ?_) ?_ <;> first | (go_grown; done) | (simp; omega))))
              ((fail))
            all_goals
              go_wp2_with fail
              go_meet
              refine ⟨⟨_, rfl, ?_, ?_, ?_, ?_, ?_⟩, ⟨_, rfl, ?_, ?_, ?_, ?_, ?_⟩, ?_⟩
              all_goals first | omega | (go_grown; done) | (simp [go_sem, *]; done)
          case rest =>
            obtain ⟨⟨s7, rfl, hs7, k0, k1, k2, k3⟩, ⟨s8, rfl, hs8, l0, l1, l2, l3⟩, hX2⟩ := hcut
            have HO2 := Lib.hid (HO1.out.keep hX2)
            have hzw : W1.heap.size ≤ wc.heap.size := hX2.size
            have hz1 : w.heap.size ≤ W1.heap.size := Nat.le_trans hzr2 hX1.size
            have hB2 := Below.trans hB1 (hX2.mono hz1)
            have kV : Facts [(s7, 0, Value.int .i64 p1), (s7, 1, Value.int .i64 p2), (s7, 2, Value.int .i64 p3), (s7, 3, Value.int .i64 p4), (s8, 0, Value.int .i64 q1), (s8, 1, Value.int .i64 q2), (s8, 2, Value.int .i64 q3), (s8, 3, Value.int .i64 q4)] wc := ⟨k0, k1, k2, k3, l0, l1, l2, l3⟩
            have HKV := Lib.hid kV
            clear hX2 k0 k1 k2 k3 l0 l1 l2 l3 kL HO1
            go_wp2_with fail
            go_region_held3 (fun w' => w'.cell? ⟨s7, 0, none⟩ = some (.int .i64 p1) ∧ w'.cell? ⟨s7, 1, none⟩ = some (.int .i64 p2) ∧ w'.cell? ⟨s7, 2, none⟩ = some (.int .i64 p3) ∧ w'.cell? ⟨s7, 3, none⟩ = some (.int .i64 p4) ∧ w'.cell? ⟨s8, 0, none⟩ = some (.int .i64 q1) ∧ w'.cell? ⟨s8, 1, none⟩ = some (.int .i64 q2) ∧ w'.cell? ⟨s8, 2, none⟩ = some (.int .i64 q3) ∧ w'.cell? ⟨s8, 3, none⟩ = some (.int .i64 q4))
              ((refine Facts.keep kV ?_; go_grown; done))
              ((first
                | (go_at_call 160; (with_reducible refine (HU.out _).mono ?_); rintro e w1 ⟨rfl, hb1⟩; have hX3 : Below wc.heap.size wc w1 := nextX (by go_grown) hb1; have hz3 := hX3.size)
                | (go_at_call 160; (with_reducible refine (HY.out _).mono ?_); rintro e w2 ⟨rfl, hb2⟩; have hX4 : Below wc.heap.size wc w2 := nextX hX3 (nextX (by go_grown) hb2); have hz4 := hX4.size)))
            have kV := HKV.out.keep hX4
            have HO3 := Lib.hid (HO2.out.keep hX4)
            have hB3 := Below.trans hB2 (hX4.mono (by omega))
            clear hX3 hX4 HO2
            by_cases hc : u * y < 0
            · have hc' : decide (u * y < 0) = true := by simpa using hc
              have HE := Lib.hid (show fixB ((pcs ps).take (k + 1)) = fixB ((pcs ps).take k) ++ [(x1, x2)] by rw [HSn.out, if_pos (HCr.out.trans hc'), HX.out])
              have HF := Lib.hid (fun W => fixedBetween_is p1 p2 p3 p4 q1 q2 q3 q4 x1 x2 xt W HP.out HQ.out (HCr.out.trans hc') HX.out)
              obtain ⟨k0, k1, k2, k3, l0, l1, l2, l3⟩ := (kV : Facts [(s7, 0, Value.int .i64 p1), (s7, 1, Value.int .i64 p2), (s7, 2, Value.int .i64 p3), (s7, 3, Value.int .i64 p4), (s8, 0, Value.int .i64 q1), (s8, 1, Value.int .i64 q2), (s8, 2, Value.int .i64 q3), (s8, 3, Value.int .i64 q4)] w2)
              go_wp2_with fail
              refine (HF.out _).mono ?_
              rintro e w5 ⟨rfl, hb5⟩
              have hX5 : Below w2.heap.size w2 w5 := nextX (by go_grown) hb5
              have HO5 := Lib.hid (HO3.out.keep hX5)
              have hz5 := hX5.size
              have hB5 := Below.trans hB3 (hX5.mono (by omega))
              clear hb5 hX5 HO3 kV
              go_wp2_with (at_builtin; refine append_q1 _ rfl _ _ rfl w.heap.size _ (fixA ps ++ fixB ((pcs ps).take k)) rfl ?ownb _ _ x1 x2 rfl ?c0b ?c1b ?lenb ?baseb ?_)
              case ownb => exact HO5.out.keep (by go_grown)
              case c0b => simp [go_sem]
              case c1b => simp [go_sem]
              case lenb => rw [List.length_append]; omega
              case baseb => go_size
              intro v' w' hown h7
              have hB7 : Below w.heap.size V0 w' := Below.trans (Below.trans hB5 (by go_grown)) h7
              have HO7 := Lib.hid hown
              clear h7 hown HO5
              go_wp2_with fail
              go_roundw
              case rel => exact ⟨k + 1, by omega, by go_num, by rw [HE.out]; exact HO7.out, hB7⟩
              case measure => simp [intOf]; omega
            · have hc' : decide (u * y < 0) = false := by simpa using hc
              have HE := Lib.hid (show fixB ((pcs ps).take (k + 1)) = fixB ((pcs ps).take k) by rw [HSn.out, if_neg (by rw [HCr.out, hc']; simp), List.append_nil])
              go_wp2_with fail
              go_roundw
              case rel => exact ⟨k + 1, by omega, by go_num, by rw [HE.out]; exact HO3.out, hB3⟩
              case measure => simp [intOf]; omega
        · have hk' : k = ps.length - 1 := by omega
          have b5 : (ps.length : Int) ≤ (k : Int) + 1 := by omega
          have HE := Lib.hid (show OwQ w.heap.size 31 wr u3 (fixA ps ++ fixB (pcs ps)) by have := HO.out; rwa [List.take_of_length_le (l := pcs ps) (by rw [HPl.out]; omega)] at this)
          have HOk := Lib.hid (fix_ok HM.out hn.1)
          have HSet := Lib.hid (fix_set HM.out hn.1)
          have hbl := fixB_len (pcs ps)
          have hpl := HPl.out
          clear HO
          go_wp2_with fail
          refine (rising_is w.heap.size _ _ _ HE.out HOk.out (by rw [List.length_append]; omega)).mono ?_
          rintro e w4 ⟨r4, rfl, os4, he, hb4⟩
          rw [HSet.out] at os4
          have B4 : Below w.heap.size w w4 := by
            obtain ⟨j, hj, hj2⟩ : ∃ j, w.heap.size ≤ j ∧ ∀ b, u3.ownBlock = some b → b = j := by
              rcases hv : u3.ownBlock with _ | b
              · exact ⟨w.heap.size, Nat.le_refl _, fun b hb => by simp at hb⟩
              · exact ⟨b, (World.ownsRow.lt HE.out b hv).1, fun c hc => by simpa using hc.symm⟩
            exact But.below hBr2 (hb4 j hj2) hj hBr2.size
          have H4 := Lib.hid (And.intro os4 B4)
          clear os4 B4 hb4
          go_wp2_with fail
          go_ret
          exact ⟨_, rfl, H4.out.1, H4.out.2⟩

end Go.Proofs.YtkeajfgcjmhmiaaGreat
