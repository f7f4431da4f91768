/- The reference's MiddleMap. -/
import Derived.Test.YtkeajfgcjmhmiaaGreatJ47
namespace Go.Proofs.YtkeajfgcjmhmiaaGreat
open Go.RowKit

theorem allM_fine {f g : List Pt} (h : allFine f g = false) : allM f g (bothQ f g) = false := by
  unfold allFine at h
  rw [List.all_eq_false] at h
  obtain ⟨x, hx, h2⟩ := h
  unfold allM
  rw [List.all_eq_false]
  refine ⟨x, hx, ?_⟩
  unfold fineV at h2
  unfold midT
  cases h3 : (valQ f x).2 <;> cases h4 : (valQ g x).2 <;> simp [h3, h4] at h2 ⊢
theorem fine_at {f g : List Pt} (h : allFine f g = true) {x : Q} (hx : x ∈ bothQ f g) : (valQ f x).2 = true ∧ (valQ g x).2 = true := by
  unfold allFine at h
  have := List.all_eq_true.1 h x hx
  unfold fineV at this
  simpa using this

def RelMs (f g : List Pt) (W0 : World) (out i : Value) (wr : World) : Prop :=
  ∃ k : Nat, k ≤ (bothQ f g).length ∧ i = .int .i64 k ∧ OwP W0.heap.size 51 wr out ((midL f g).take k) ∧ allM f g ((bothQ f g).take k) = true ∧ Below W0.heap.size W0 wr

set_option maxRecDepth 100000 in
set_option maxHeartbeats 6400000 in
theorem sMiddleMap_is (f g : List Pt) (vf vg : Value) (m : List Pt) (t : Bool) (hl : midMapQ f g = (m, t)) (w : World) (hf : RdP w vf f) (hg : RdP w vg g) (hn : f.length ≤ 1048576) (hk : g.length ≤ 1048576) :
    Calls Tryz.prog 36 #[vf, vg] w (RetPB w m t) := by
  have HF := Lib.hid hf
  have HG := Lib.hid hg
  have HL := Lib.hid hl
  rcases hm : (okMap f && okMap g) with _ | _
  · obtain ⟨rfl, rfl⟩ : [] = m ∧ false = t := by have := HL.out; unfold midMapQ at this; rw [if_neg (by rw [hm]; simp)] at this; exact Prod.mk.inj this
    have HM := Lib.hid hm
    clear hf hg hl hm
    go_enter Tryz.func36, Tryz.ntmps36
    go_wp2_with fail
    refine (coTwo_is f g _ _ false HM.out _ (HF.out.keep (by go_grown)) (HG.out.keep (by go_grown)) hn hk).mono ?_
    rintro e w1 ⟨rfl, hb⟩
    go_wp2_with fail
    go_ret2
    exact ⟨_, rfl, World.ownsRow_nil _ _ _ _, hb⟩
  · have HM := Lib.hid hm
    have MF : okMap f = true := by simp at hm; exact hm.1
    have MG : okMap g = true := by simp at hm; exact hm.2
    have HMF := Lib.hid MF
    have HMG := Lib.hid MG
    have hpos := bothQ_pos (g := g) MF
    have l1 := okMap_len MF
    have l2 := okMap_len MG
    have hbl := bothQ_len f g
    have HUn := Lib.hid (bothQ_unit MF MG)
    have HJ := Lib.hid (midL_joined MF MG)
    have hml : (midL f g).length = (bothQ f g).length := by unfold midL; rw [List.length_map]
    obtain ⟨⟨ra, rb, tt⟩, hcv⟩ : ∃ r, cvQ f g = r := ⟨_, rfl⟩
    have HCv := Lib.hid hcv
    have hres : (if allM f g (bothQ f g) = true then madeQ (midL f g) else ([], false)) = (m, t) := by have := HL.out; unfold midMapQ at this; rwa [if_pos hm] at this
    have HRes := Lib.hid hres
    clear hf hg hl hm MF MG hcv hres
    go_enter Tryz.func36, Tryz.ntmps36
    go_wp2_with fail
    refine (coTwo_is f g _ _ true HM.out _ (HF.out.keep (by go_grown)) (HG.out.keep (by go_grown)) hn hk).mono ?_
    rintro e w1 ⟨rfl, hb⟩
    have hB : Below w.heap.size w w1 := hb
    clear hb
    go_wp2_with fail
    refine (coValues_is f g _ _ ra rb tt HCv.out w1 (HF.out.keep hB) (HG.out.keep hB) HMF.out HMG.out).mono ?_
    rintro e w2 ⟨r, s, rfl, owr, ows, hb⟩
    have hB2 := nextW hB hb
    clear hb
    rcases hfa : allFine f g with _ | _
    · obtain ⟨rfl, rfl, rfl⟩ : [] = ra ∧ [] = rb ∧ false = tt := by have := HCv.out; unfold cvQ at this; rw [if_neg (by rw [hfa]; simp)] at this; simpa using this
      obtain ⟨rfl, rfl⟩ : [] = m ∧ false = t := by have := HRes.out; rw [if_neg (by rw [allM_fine hfa]; simp)] at this; exact Prod.mk.inj this
      clear owr ows
      go_wp2_with fail
      go_ret2
      exact ⟨_, rfl, World.ownsRow_nil _ _ _ _, hB2⟩
    · obtain ⟨rfl, rfl, rfl⟩ : valA f g = ra ∧ valB f g = rb ∧ true = tt := by have := HCv.out; unfold cvQ at this; rw [if_pos hfa] at this; simpa using this
      have HFa := Lib.hid (fun (x : Q) (hx : x ∈ bothQ f g) => fine_at hfa hx)
      obtain ⟨g1, cap1, rfl, hc1, hc2, -, hg1, hcell1⟩ := owr.lit (n := (bothQ f g).length) (by unfold valA; simp) hpos
      obtain ⟨g2, cap2, rfl, hd1, hd2, -, hg2, hcell2⟩ := ows.lit (n := (bothQ f g).length) (by unfold valB; simp) hpos
      unfold maxLen at hc2 hd2
      have HC1 := Lib.hid hcell1
      have HC2 := Lib.hid hcell2
      clear owr ows hcell1 hcell2
      go_wp2_with fail
      refine (coBoth_is f g _ _ _ (HF.out.keep (nextX hB2 (by go_grown))) (HG.out.keep (nextX hB2 (by go_grown))) HMF.out HMG.out).mono ?_
      rintro e w3 ⟨r3, rfl, os3, hb⟩
      have hX3 : Below w2.heap.size w2 w3 := nextX (by go_grown) hb
      obtain ⟨g3, cap3, rfl, he1, he2, -, hg3, hcell3⟩ := os3.lit (n := (bothQ f g).length) rfl hpos
      unfold maxLen at he2
      have HC3 := Lib.hid hcell3
      have hB3 := nextW hB2 hX3
      replace HC1 := Lib.hid (fun i q hq => And.intro (cellB hX3 (HC1.out i q hq).1) (cellB hX3 (HC1.out i q hq).2))
      replace HC2 := Lib.hid (fun i q hq => And.intro (cellB hX3 (HC2.out i q hq).1) (cellB hX3 (HC2.out i q hq).2))
      clear os3 hb hcell3 hX3 hB2
      go_wp2_with fail
      go_name_world W0 hW
      rw [hW] at HC1 HC2 HC3 hB3
      have hzw : w.heap.size ≤ W0.heap.size := hB3.size
      clear hW hg1 hg2 hg3
      go_loopw [9, 31] (fun out i wr => RelMs f g W0 out i wr) (fun _ i _ => (bothQ f g).length - (intOf i).toNat)
      case atStart => exact ⟨0, Nat.zero_le _, rfl, World.ownsRow_nil _ _ _ _, by unfold allM; simp, Below.refl _ _⟩
      case round =>
        obtain ⟨k, hk2, rfl, hown, hal, hb⟩ := hrel
        have HO := Lib.hid hown
        have HAl := Lib.hid hal
        have hBr := nextW hB3 hb
        have hzs : W0.heap.size ≤ wr.heap.size := hb.size
        clear hown hal
        by_cases hlt : k < (bothQ f g).length
        · have hx := List.getElem?_eq_getElem hlt
          generalize (bothQ f g)[k] = x at *
          have hya : (valA f g)[k]? = some (valQ f x).1 := by unfold valA; rw [List.getElem?_map, hx]; rfl
          have hyb : (valB f g)[k]? = some (valQ g x).1 := by unfold valB; rw [List.getElem?_map, hx]; rfl
          have hxm := List.mem_of_getElem? hx
          have ux := HUn.out _ hxm
          have uf := unitQ_ok (valQ_unit (x := x) HMF.out ux)
          have ug := unitQ_ok (valQ_unit (x := x) HMG.out ux)
          have hfi := HFa.out x hxm
          have hsn : (midL f g).take (k + 1) = (midL f g).take k ++ [midPt f g x] := map_take_snoc (midPt f g) hx
          have haln : allM f g ((bothQ f g).take (k + 1)) = (allM f g ((bothQ f g).take k) && midT f g x) := by unfold allM; rw [take_snoc_get hx, List.all_append]; simp
          obtain ⟨c0, c1⟩ := HC1.out k _ hya
          obtain ⟨d0, d1⟩ := HC2.out k _ hyb
          obtain ⟨e0, e1⟩ := HC3.out k _ hx
          obtain ⟨x1, x2⟩ := x
          rcases hy : (valQ f (x1, x2)).1 with ⟨y1, y2⟩
          rcases hz : (valQ g (x1, x2)).1 with ⟨z1, z2⟩
          rcases hmi : midQ y1 y2 z1 z2 with ⟨q1, q2, tm⟩
          have hmt : midT f g (x1, x2) = tm := by unfold midT midM; rw [hfi.1, hfi.2, hy, hz, hmi]; rfl
          have hpt : midPt f g (x1, x2) = ((x1, x2), keepQ (q1, q2, tm)) := by unfold midPt midV midM; rw [hy, hz, hmi]
          rw [hpt] at hsn
          rw [hmt] at haln
          simp only [hy, hz] at c0 c1 d0 d1 uf ug
          have hlo : lowQ (y1 * z2 + z1 * y2) (2 * y2 * z2) = (q1, q2, tm) := by rw [← hmi]; simp [midQ, uf, ug]
          have HHf := Lib.hid (fun W => raHalf_any y1 y2 z1 z2 q1 q2 tm (Sm.of_ok uf).1 (Sm.of_ok uf).2 (Sm.of_ok ug).1 (Sm.of_ok ug).2 hlo W)
          have HSn := Lib.hid hsn
          have HAn := Lib.hid haln
          have HMt := Lib.hid hmt
          have HXm := Lib.hid hxm
          replace c0 := cellB hb c0
          replace c1 := cellB hb c1
          replace d0 := cellB hb d0
          replace d1 := cellB hb d1
          replace e0 := cellB hb e0
          replace e1 := cellB hb e1
          have b0 : (0 : Int) ≤ (k : Int) := by omega
          have b1 : (k : Int) < ((bothQ f g).length : Int) := by omega
          have v2 : IntKind.i64.wrap ((k : Int) + 1) = (k : Int) + 1 := IntWalk.i64_in _ (by omega)
          have v3 : IntKind.i64.wrap (k : Int) = (k : Int) := IntWalk.i64_in _ (by omega)
          have hlk : ((midL f g).take k).length ≤ 24 := by rw [List.length_take]; omega
          clear hx hya hyb ux uf ug hsn haln hy hz hmi hmt hpt hlo hfi hxm
          go_wp2_with fail
          go_name_world W1 hW1
          have hX1 : Below wr.heap.size wr W1 := by rw [← hW1]; go_grown
          have xb0 : W1.cell? ⟨wr.heap.size, 0, none⟩ = some (.int .i64 x1) := by rw [← hW1]; simp [go_sem]
          have xb1 : W1.cell? ⟨wr.heap.size, 1, none⟩ = some (.int .i64 x2) := by rw [← hW1]; simp [go_sem]
          have kL : Facts [(g1, k * 2, Value.int .i64 y1), (g1, k * 2 + 1, Value.int .i64 y2), (g2, k * 2, Value.int .i64 z1), (g2, k * 2 + 1, Value.int .i64 z2)] W1 := ⟨cellB hX1 c0, cellB hX1 c1, cellB hX1 d0, cellB hX1 d1⟩
          have HO1 := Lib.hid (HO.out.keep hX1)
          have hb1 := nextW hb hX1
          have hBr1 := nextW hBr hX1
          have HXb := Lib.hid (And.intro xb0 xb1)
          have zx := lt_of_cell xb0
          clear hW1 hX1 c0 c1 d0 d1 e0 e1 HO xb0 xb1
          go_cut [12, 13] (fun s11 s12 wx => VarQ wx s11 W1.heap.size q1 q2 ∧ s12 = .bool tm ∧ Below W1.heap.size W1 wx)
          case first =>
            go_region_held3 (fun w' => w'.cell? ⟨g1, k * 2, none⟩ = some (.int .i64 y1) ∧ w'.cell? ⟨g1, k * 2 + 1, none⟩ = some (.int .i64 y2) ∧ w'.cell? ⟨g2, k * 2, none⟩ = some (.int .i64 z1) ∧ w'.cell? ⟨g2, k * 2 + 1, none⟩ = some (.int .i64 z2))
              ((refine Facts.keep kL ?_; go_grown; done))
              ((first
                | (go_at_call 116; (with_reducible refine (HHf.out _).mono ?_); rintro e w5 ⟨rfl, hb5⟩; have hX5 : Below W1.heap.size W1 w5 := nextX (by go_grown) hb5; have z5 := hX5.size; (first | (with_reducible have n5 := fresh2 hb5) | (with_reducible have n5 := fresh2D hb5) | skip); (first | obtain ⟨⟨p0, f0⟩, p5, f5⟩ := n5 | skip))))
            all_goals (go_wp2_with fail; go_meet; first
              | exact ⟨VarQ.made (by omega) _ _ _, rfl, by go_grown⟩
              | exact ⟨VarQ.stored ⟨p0, f0⟩ ⟨p5, f5⟩ (by omega) _ _, rfl, by go_grown⟩)
          case rest =>
            obtain ⟨⟨g11, rfl, hg11, ⟨sg0, _⟩, ⟨sg1, _⟩⟩, rfl, hX⟩ := hcut
            have HO2 := Lib.hid (HO1.out.keep hX)
            have xb0 := cellB hX HXb.out.1
            have xb1 := cellB hX HXb.out.2
            have hb2 := nextW hb1 hX
            have hB2 := nextW hBr1 hX
            have zx2 := lt_of_cell xb0
            have zg := lt_of_cell sg0
            have hzc : W0.heap.size ≤ wc.heap.size := hb2.size
            clear kL hX HO1
            rcases tm with _ | _
            · have hav : allM f g (bothQ f g) = false := List.all_eq_false.2 ⟨(x1, x2), HXm.out, by rw [HMt.out]; simp⟩
              obtain ⟨rfl, rfl⟩ : [] = m ∧ false = t := by have := HRes.out; rw [if_neg (by rw [hav]; simp)] at this; exact Prod.mk.inj this
              go_wp2_with fail
              go_ret2
              exact ⟨_, rfl, World.ownsRow_nil _ _ _ _, hB2⟩
            · go_wp2_with (at_builtin; refine append_p1 _ rfl _ _ rfl W0.heap.size _ ((midL f g).take k) rfl ?own _ _ x1 x2 q1 q2 rfl ?c0 ?c1 ?c2 ?c3 ?len ?base ?_)
              case own => exact HO2.out.keep (by go_grown)
              try (case c0 => simp [go_sem])
              try (case c1 => simp [go_sem])
              try (case c2 => simp [go_sem])
              try (case c3 => simp [go_sem])
              case len => omega
              case base => go_size
              intro v' w' hown h7
              have hX7 : Below W0.heap.size wc w' := Below.trans (by go_grown) h7
              have HO7 := Lib.hid hown
              have hB7 : Below W0.heap.size W0 w' := Below.trans hb2 hX7
              clear hown h7 hX7 xb0 xb1 sg0 sg1
              go_wp2_with fail
              go_roundw
              case rel => exact ⟨k + 1, by omega, by go_num, by rw [HSn.out]; exact HO7.out, by rw [HAn.out, HAl.out]; rfl, hB7⟩
              case measure => simp [intOf]; omega
        · obtain rfl : k = (bothQ f g).length := by omega
          have hav : allM f g (bothQ f g) = true := by have := HAl.out; rwa [List.take_length] at this
          have HE := Lib.hid (show OwP W0.heap.size 51 wr u9 (midL f g) by have := HO.out; rwa [List.take_of_length_le (by omega)] at this)
          have hmq : madeQ (midL f g) = (m, t) := by have := HRes.out; rwa [if_pos hav] at this
          clear HO
          go_wp2_with fail
          refine (coIf_is (midL f g) _ m t hmq HJ.out _ (HE.out.read.keep (by go_grown))).mono ?_
          rintro e w7 ⟨r7, rfl, ow7, hb7⟩
          have hX7 : Below wr.heap.size wr w7 := nextX (by go_grown) hb7
          have hzr : w.heap.size ≤ wr.heap.size := hBr.size
          have HO7 := Lib.hid (ow7.low (b := w.heap.size) (by go_size))
          have hB7 := nextX hBr hX7
          clear ow7 hb7 hX7
          go_wp2_with fail
          go_ret2
          exact ⟨_, rfl, HO7.out, hB7⟩

end Go.Proofs.YtkeajfgcjmhmiaaGreat
