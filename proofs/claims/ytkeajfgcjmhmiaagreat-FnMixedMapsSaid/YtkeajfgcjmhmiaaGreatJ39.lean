/- The reference's ClampMap. -/
import Derived.Test.YtkeajfgcjmhmiaaGreatJ31
import Derived.Test.YtkeajfgcjmhmiaaGreatJ38
namespace Go.Proofs.YtkeajfgcjmhmiaaGreat
open Go.RowKit

theorem clampOk_no1 {f : List Pt} {lo hi y : Q} (h : y ∈ [lo, hi]) (hb : befOk y f = false) : clampOk f lo hi = false := by
  unfold clampOk; rw [cutBad_stop h hb]; rfl
theorem clampOk_no2 {f : List Pt} {lo hi x : Q} (h : x ∈ clampXs f lo hi) (hb : (valQ f x).2 = false) : clampOk f lo hi = false := by
  unfold clampOk
  have : (clampXs f lo hi).all (fun x => (valQ f x).2) = false := List.all_eq_false.2 ⟨x, h, by rw [hb]; simp⟩
  rw [this, Bool.and_false]
theorem clamp_res {f m : List Pt} {lo hi : Q} {t : Bool} (hl : clampQ f lo hi = (m, t)) (h : clampAsk f lo hi = true) : (if clampOk f lo hi = true then madeQ (clampL f lo hi) else ([], false)) = (m, t) := by
  unfold clampQ at hl; rwa [if_pos h] at hl
theorem clamp_stop {f m : List Pt} {lo hi : Q} {t : Bool} (hl : (if clampOk f lo hi = true then madeQ (clampL f lo hi) else ([], false)) = (m, t)) (h : clampOk f lo hi = false) : [] = m ∧ false = t := by
  rw [if_neg (by rw [h]; simp)] at hl; exact Prod.mk.inj hl
theorem clampXs_same {f : List Pt} {lo hi : Q} (mf : okMap f = true) (ho : OkL [lo, hi]) (hb : cutBad f [lo, hi] 2 = false) : cutS f [lo, hi] 2 = clampXs f lo hi := by
  rw [cut_same mf ho hb]; rfl
theorem clamp_cutOk {f : List Pt} {lo hi : Q} (hb : cutBad f [lo, hi] 2 = false) : cutOk f [lo, hi] = true := by
  have : cutBad f [lo, hi] 2 = !cutOk f [lo, hi] := cutBad_end f [lo, hi]
  rw [hb] at this
  cases h : cutOk f [lo, hi]
  · rw [h] at this; simp at this
  · rfl
theorem cmpL_yes {n1 d1 n2 d2 y : Int} (h : cmpQ n1 d1 n2 d2 = y) (hl : lessQ n1 d1 n2 d2 = true) : decide (y < 0) = true ∧ y < 0 := by
  rw [← h, ← lessQ_cmp]
  refine ⟨hl, ?_⟩
  rw [lessQ_cmp] at hl
  simpa using hl
theorem cmpL_no {n1 d1 n2 d2 y : Int} (h : cmpQ n1 d1 n2 d2 = y) (hl : lessQ n1 d1 n2 d2 = false) : decide (y < 0) = false ∧ ¬ y < 0 := by
  rw [← h, ← lessQ_cmp]
  refine ⟨hl, ?_⟩
  rw [lessQ_cmp] at hl
  simpa using hl
theorem clampL_get {f : List Pt} {lo hi : Q} {k : Nat} {x : Q} (h : (clampXs f lo hi)[k]? = some x) : (clampL f lo hi).take (k + 1) = (clampL f lo hi).take k ++ [(x, clampV f lo hi x)] := by
  unfold clampL ptsQ
  exact map_take_snoc (fun x => (x, clampV f lo hi x)) h

def RelKsA (f : List Pt) (ys : List Q) (h : Nat) (W0 : World) (xs i : Value) (wr : World) : Prop :=
  ∃ k : Nat, k ≤ 2 ∧ i = .int .i64 k ∧ OwQ h 31 wr xs (cutS f ys k) ∧ cutBad f ys k = false ∧ Below W0.heap.size W0 wr
def RelKsB (l s : List Q) (h : Nat) (W0 : World) (xs i : Value) (wr : World) : Prop :=
  ∃ j : Nat, j ≤ l.length ∧ i = .int .i64 j ∧ OwQ h 31 wr xs ((l.take j).foldl (fun l x => insQ x l) s) ∧ Below W0.heap.size W0 wr
def RelKsC (f : List Pt) (lo hi : Q) (W0 : World) (out i : Value) (wr : World) : Prop :=
  ∃ k : Nat, k ≤ (clampXs f lo hi).length ∧ i = .int .i64 k ∧ OwP W0.heap.size 51 wr out ((clampL f lo hi).take k) ∧ ((clampXs f lo hi).take k).all (fun x => (valQ f x).2) = true ∧ Below W0.heap.size W0 wr

set_option maxRecDepth 100000 in
set_option maxHeartbeats 12800000 in
theorem sClampMap_is (f : List Pt) (vf : Value) (a1 a2 b1 b2 : Int) (m : List Pt) (t : Bool) (hl : clampQ f (a1, a2) (b1, b2) = (m, t)) (w : World) (hf : RdP w vf f) (hn : f.length ≤ 1048576) :
    Calls Tryz.prog 32 #[vf, .agg #[.int .i64 a1, .int .i64 a2], .agg #[.int .i64 b1, .int .i64 b2]] w (RetPB w m t) := by
  have HF := Lib.hid hf
  have HL := Lib.hid hl
  clear hl
  rcases hm : okMap f with _ | _
  · have HM := Lib.hid hm
    obtain ⟨rfl, rfl⟩ := clampQ_no HL.out (show clampAsk f (a1, a2) (b1, b2) = false by unfold clampAsk; rw [hm]; rfl)
    clear hm
    go_enter Tryz.func32, Tryz.ntmps32
    go_wp2_with fail
    refine (imGood_is f _ false _ (HF.out.keep (by go_grown)) hn HM.out).mono ?_
    rintro e w1 ⟨rfl, hb⟩
    have hX : Below w.heap.size w w1 := nextX (by go_grown) hb
    have b00 : w1.cell? ⟨w.heap.size, 0, none⟩ = some (.int .i64 a1) := cellB hb (by simp [go_sem])
    have b01 : w1.cell? ⟨w.heap.size, 1, none⟩ = some (.int .i64 a2) := cellB hb (by simp [go_sem])
    have b10 : w1.cell? ⟨w.heap.size + 1, 0, none⟩ = some (.int .i64 b1) := cellB hb (by simp [go_sem])
    have b11 : w1.cell? ⟨w.heap.size + 1, 1, none⟩ = some (.int .i64 b2) := cellB hb (by simp [go_sem])
    have zb00 := lt_of_cell b00
    have zb10 := lt_of_cell b10
    have hB : Below w.heap.size w w1 := hX
    clear hb hX
    go_wp2_with fail
    go_ret2
    exact ⟨_, rfl, World.ownsRow_nil _ _ _ _, hB⟩
  · have HM := Lib.hid hm
    rcases ua : unitQ a1 a2 with _ | _
    · have HUa := Lib.hid ua
      obtain ⟨rfl, rfl⟩ := clampQ_no HL.out (show clampAsk f (a1, a2) (b1, b2) = false by unfold clampAsk; rw [hm]; show (true && unitQ a1 a2 && unitQ b1 b2 && _) = false; rw [ua]; rfl)
      clear hm ua
      go_enter Tryz.func32, Tryz.ntmps32
      go_wp2_with fail
      refine (imGood_is f _ true _ (HF.out.keep (by go_grown)) hn HM.out).mono ?_
      rintro e w1 ⟨rfl, hb⟩
      have hX : Below w.heap.size w w1 := nextX (by go_grown) hb
      have b00 : w1.cell? ⟨w.heap.size, 0, none⟩ = some (.int .i64 a1) := cellB hb (by simp [go_sem])
      have b01 : w1.cell? ⟨w.heap.size, 1, none⟩ = some (.int .i64 a2) := cellB hb (by simp [go_sem])
      have b10 : w1.cell? ⟨w.heap.size + 1, 0, none⟩ = some (.int .i64 b1) := cellB hb (by simp [go_sem])
      have b11 : w1.cell? ⟨w.heap.size + 1, 1, none⟩ = some (.int .i64 b2) := cellB hb (by simp [go_sem])
      have zb00 := lt_of_cell b00
      have zb10 := lt_of_cell b10
      have hB : Below w.heap.size w w1 := hX
      clear hb hX
      go_wp2_with fail
      refine (raUnit_any a1 a2 _).mono ?_
      rintro e w2 ⟨he, hb⟩
      rw [HUa.out] at he
      subst he
      have hX : Below w1.heap.size w1 w2 := nextX (by go_grown) hb
      replace b00 := cellB hX b00
      replace b01 := cellB hX b01
      replace b10 := cellB hX b10
      replace b11 := cellB hX b11
      have zb00 := Nat.lt_of_lt_of_le zb00 hX.size
      have zb10 := Nat.lt_of_lt_of_le zb10 hX.size
      replace hB := nextW hB hX
      clear hb hX
      go_wp2_with fail
      go_ret2
      exact ⟨_, rfl, World.ownsRow_nil _ _ _ _, hB⟩
    · have HUa := Lib.hid ua
      rcases ub : unitQ b1 b2 with _ | _
      · have HUb := Lib.hid ub
        obtain ⟨rfl, rfl⟩ := clampQ_no HL.out (show clampAsk f (a1, a2) (b1, b2) = false by unfold clampAsk; rw [hm]; show (true && unitQ a1 a2 && unitQ b1 b2 && _) = false; rw [ua, ub]; rfl)
        clear hm ua ub
        go_enter Tryz.func32, Tryz.ntmps32
        go_wp2_with fail
        refine (imGood_is f _ true _ (HF.out.keep (by go_grown)) hn HM.out).mono ?_
        rintro e w1 ⟨rfl, hb⟩
        have hX : Below w.heap.size w w1 := nextX (by go_grown) hb
        have b00 : w1.cell? ⟨w.heap.size, 0, none⟩ = some (.int .i64 a1) := cellB hb (by simp [go_sem])
        have b01 : w1.cell? ⟨w.heap.size, 1, none⟩ = some (.int .i64 a2) := cellB hb (by simp [go_sem])
        have b10 : w1.cell? ⟨w.heap.size + 1, 0, none⟩ = some (.int .i64 b1) := cellB hb (by simp [go_sem])
        have b11 : w1.cell? ⟨w.heap.size + 1, 1, none⟩ = some (.int .i64 b2) := cellB hb (by simp [go_sem])
        have zb00 := lt_of_cell b00
        have zb10 := lt_of_cell b10
        have hB : Below w.heap.size w w1 := hX
        clear hb hX
        go_wp2_with fail
        refine (raUnit_any a1 a2 _).mono ?_
        rintro e w2 ⟨he, hb⟩
        rw [HUa.out] at he
        subst he
        have hX : Below w1.heap.size w1 w2 := nextX (by go_grown) hb
        replace b00 := cellB hX b00
        replace b01 := cellB hX b01
        replace b10 := cellB hX b10
        replace b11 := cellB hX b11
        have zb00 := Nat.lt_of_lt_of_le zb00 hX.size
        have zb10 := Nat.lt_of_lt_of_le zb10 hX.size
        replace hB := nextW hB hX
        clear hb hX
        go_wp2_with fail
        refine (raUnit_any b1 b2 _).mono ?_
        rintro e w3 ⟨he, hb⟩
        rw [HUb.out] at he
        subst he
        have hX : Below w2.heap.size w2 w3 := nextX (by go_grown) hb
        replace b00 := cellB hX b00
        replace b01 := cellB hX b01
        replace b10 := cellB hX b10
        replace b11 := cellB hX b11
        have zb00 := Nat.lt_of_lt_of_le zb00 hX.size
        have zb10 := Nat.lt_of_lt_of_le zb10 hX.size
        replace hB := nextW hB hX
        clear hb hX
        go_wp2_with fail
        go_ret2
        exact ⟨_, rfl, World.ownsRow_nil _ _ _ _, hB⟩
      · have HUb := Lib.hid ub
        have SA := Lib.hid (Sm.of_ok (unitQ_ok ua))
        have SB := Lib.hid (Sm.of_ok (unitQ_ok ub))
        obtain ⟨y, hy⟩ : ∃ y, cmpQ a1 a2 b1 b2 = y := ⟨_, rfl⟩
        have HY := Lib.hid hy
        have hgt : 0 < y ↔ lessQ b1 b2 a1 a2 = true := by rw [← hy, cmpQ_gt (unitQ_bd ua).2.2.1 (unitQ_bd ub).2.2.1, lessQ_iff (unitQ_bd ub).2.2.1 (unitQ_bd ua).2.2.1]
        rcases hs : lessQ b1 b2 a1 a2 with _ | _
        · have g1 : ¬ 0 < y := fun h => by rw [hgt.1 h] at hs; cases hs
          have g2 : decide (0 < y) = false := by simpa using g1
          have g3 : y ≤ 0 := by omega
          have hask : clampAsk f (a1, a2) (b1, b2) = true := by unfold clampAsk; rw [hm]; show (true && unitQ a1 a2 && unitQ b1 b2 && !lessQ b1 b2 a1 a2) = true; rw [ua, ub, hs]; rfl
          have HRes := Lib.hid (clamp_res HL.out hask)
          have HJ := Lib.hid (clampL_joined (lo := (a1, a2)) (hi := (b1, b2)) hm ua ub)
          have l1 := okMap_len hm
          have HYs := Lib.hid (two_ok (lo := (a1, a2)) (hi := (b1, b2)) ua ub)
          have HLe := Lib.hid (fun k => cutS_len f [(a1, a2), (b1, b2)] k)
          have hxl := clampXs_len (lo := (a1, a2)) (hi := (b1, b2)) hm ua ub
          have HUx := Lib.hid (show UnL (clampXs f (a1, a2) (b1, b2)) from cutAll_unit hm (two_ok (lo := (a1, a2)) (hi := (b1, b2)) ua ub))
          clear hm ua ub hy hgt hs hask
          go_enter Tryz.func32, Tryz.ntmps32
          go_wp2_with fail
          refine (imGood_is f _ true _ (HF.out.keep (by go_grown)) hn HM.out).mono ?_
          rintro e w1 ⟨rfl, hb⟩
          have hX : Below w.heap.size w w1 := nextX (by go_grown) hb
          have b00 : w1.cell? ⟨w.heap.size, 0, none⟩ = some (.int .i64 a1) := cellB hb (by simp [go_sem])
          have b01 : w1.cell? ⟨w.heap.size, 1, none⟩ = some (.int .i64 a2) := cellB hb (by simp [go_sem])
          have b10 : w1.cell? ⟨w.heap.size + 1, 0, none⟩ = some (.int .i64 b1) := cellB hb (by simp [go_sem])
          have b11 : w1.cell? ⟨w.heap.size + 1, 1, none⟩ = some (.int .i64 b2) := cellB hb (by simp [go_sem])
          have zb00 := lt_of_cell b00
          have zb10 := lt_of_cell b10
          have hB : Below w.heap.size w w1 := hX
          clear hb hX
          go_wp2_with fail
          refine (raUnit_any a1 a2 _).mono ?_
          rintro e w2 ⟨he, hb⟩
          rw [HUa.out] at he
          subst he
          have hX : Below w1.heap.size w1 w2 := nextX (by go_grown) hb
          replace b00 := cellB hX b00
          replace b01 := cellB hX b01
          replace b10 := cellB hX b10
          replace b11 := cellB hX b11
          have zb00 := Nat.lt_of_lt_of_le zb00 hX.size
          have zb10 := Nat.lt_of_lt_of_le zb10 hX.size
          replace hB := nextW hB hX
          clear hb hX
          go_wp2_with fail
          refine (raUnit_any b1 b2 _).mono ?_
          rintro e w3 ⟨he, hb⟩
          rw [HUb.out] at he
          subst he
          have hX : Below w2.heap.size w2 w3 := nextX (by go_grown) hb
          replace b00 := cellB hX b00
          replace b01 := cellB hX b01
          replace b10 := cellB hX b10
          replace b11 := cellB hX b11
          have zb00 := Nat.lt_of_lt_of_le zb00 hX.size
          have zb10 := Nat.lt_of_lt_of_le zb10 hX.size
          replace hB := nextW hB hX
          clear hb hX
          go_wp2_with fail
          refine (raCmp_is a1 a2 b1 b2 y SA.out SB.out HY.out _).mono ?_
          rintro e w4 ⟨rfl, hb⟩
          have hX : Below w3.heap.size w3 w4 := nextX (by go_grown) hb
          replace b00 := cellB hX b00
          replace b01 := cellB hX b01
          replace b10 := cellB hX b10
          replace b11 := cellB hX b11
          have zb00 := Nat.lt_of_lt_of_le zb00 hX.size
          have zb10 := Nat.lt_of_lt_of_le zb10 hX.size
          replace hB := nextW hB hX
          clear hb hX
          go_wp2_with fail
          refine (coXs_any f _ _ (HF.out.keep (nextX hB (by go_grown))) (by omega)).mono ?_
          rintro e w5 ⟨r1, rfl, os1, hb⟩
          have HO5 := Lib.hid (show OwQ w.heap.size 31 w5 r1 (cutS f [(a1, a2), (b1, b2)] 0) by rw [cutS_zero]; exact os1.low (by have := hB.size; go_size))
          clear os1
          have hX : Below w4.heap.size w4 w5 := nextX (by go_grown) hb
          replace b00 := cellB hX b00
          replace b01 := cellB hX b01
          replace b10 := cellB hX b10
          replace b11 := cellB hX b11
          have zb00 := Nat.lt_of_lt_of_le zb00 hX.size
          have zb10 := Nat.lt_of_lt_of_le zb10 hX.size
          replace hB := nextW hB hX
          clear hb hX
          go_wp2_with fail
          go_name_world W0 hW
          have hX0 : Below w5.heap.size w5 W0 := by rw [← hW]; go_grown
          have HC := Lib.hid (show ∀ (i : Nat) (q : Q), [((a1, a2) : Q), (b1, b2)][i]? = some q → W0.cell? ⟨w5.heap.size, i * 2, none⟩ = some (.int .i64 q.1) ∧ W0.cell? ⟨w5.heap.size, i * 2 + 1, none⟩ = some (.int .i64 q.2) by
            intro i q hq
            rw [← hW]
            rcases i with _ | _ | i
            · obtain rfl := Option.some.inj hq
              exact ⟨by simp [go_sem], by simp [go_sem]⟩
            · obtain rfl := Option.some.inj hq
              exact ⟨by simp [go_sem], by simp [go_sem]⟩
            · simp at hq)
          have HO0 := Lib.hid (HO5.out.keep hX0)
          have zg : w5.heap.size < W0.heap.size := by rw [← hW]; simp
          replace hB := nextW hB hX0
          have zw : w.heap.size ≤ W0.heap.size := hB.size
          replace b00 := cellB hX0 b00
          replace b01 := cellB hX0 b01
          replace b10 := cellB hX0 b10
          replace b11 := cellB hX0 b11
          have HBx := Lib.hid (And.intro (And.intro b00 b01) (And.intro b10 b11))
          clear hW HO5 hX0 b00 b01 b10 b11 zb00 zb10
          go_loopw [8, 45] (fun xs i wr => RelKsA f [(a1, a2), (b1, b2)] w.heap.size W0 xs i wr) (fun _ i _ => 2 - (intOf i).toNat)
          case atStart => exact ⟨0, Nat.zero_le _, rfl, HO0.out, cutBad_zero _ _, Below.refl _ _⟩
          case round =>
            obtain ⟨k, hk2, rfl, hown, hcb, hb⟩ := hrel
            have HO := Lib.hid hown
            have HCb := Lib.hid hcb
            have hBr := nextW hB hb
            have hzr : w.heap.size ≤ wr.heap.size := hBr.size
            clear hown hcb
            by_cases hlt : k < 2
            · have hy := List.getElem?_eq_getElem (l := [((a1, a2) : Q), (b1, b2)]) (show k < [((a1, a2) : Q), (b1, b2)].length from hlt)
              generalize [((a1, a2) : Q), (b1, b2)][k] = p at *
              obtain ⟨c00, c01⟩ := HC.out k _ hy
              obtain ⟨p1, p2⟩ := p
              simp only at c00 c01
              have HLn := Lib.hid (cutS_next (g := f) hy)
              have HBn := Lib.hid (cutBad_next (g := f) hy)
              have HMem := Lib.hid (List.mem_of_getElem? hy)
              have HOy := Lib.hid (HYs.out _ (List.mem_of_getElem? hy))
              replace c00 := cellB hb c00
              replace c01 := cellB hb c01
              obtain ⟨⟨l, tt⟩, hbr⟩ : ∃ r, befRes (p1, p2) f = r := ⟨_, rfl⟩
              have HBr := Lib.hid hbr
              have bk0 : (0 : Int) ≤ (k : Int) := by omega
              have bk1 : (k : Int) < 2 := by omega
              have v2 : IntKind.i64.wrap ((k : Int) + 1) = (k : Int) + 1 := IntWalk.i64_in _ (by omega)
              have v3 : IntKind.i64.wrap (k : Int) = (k : Int) := IntWalk.i64_in _ (by omega)
              clear hy hbr
              go_wp2_with fail
              refine (imBefore_is f _ p1 p2 l tt HBr.out _ (HF.out.keep (nextX hBr (by go_grown))) HM.out HOy.out).mono ?_
              rintro e w5 ⟨r5, rfl, ow5, hb5⟩
              have hX : Below wr.heap.size wr w5 := nextX (by go_grown) hb5
              have HO5 := Lib.hid (HO.out.keep hX)
              have HR5 := Lib.hid ow5.read
              have hB5 := nextW hb hX
              have hB6 := nextW hBr hX
              have hz5 : w.heap.size ≤ w5.heap.size := hB6.size
              clear hb5 hX ow5 c00 c01 HO
              rcases hbo : befOk (p1, p2) f with _ | _
              · obtain ⟨rfl, rfl⟩ : [] = l ∧ false = tt := by have := HBr.out; unfold befRes at this; rw [if_neg (by rw [hbo]; simp)] at this; exact Prod.mk.inj this
                obtain ⟨rfl, rfl⟩ : [] = m ∧ false = t := clamp_stop HRes.out (clampOk_no1 HMem.out hbo)
                go_wp2_with fail
                go_ret2
                exact ⟨_, rfl, World.ownsRow_nil _ _ _ _, hB6⟩
              · obtain ⟨rfl, rfl⟩ : befQ (p1, p2) f = l ∧ true = tt := by have := HBr.out; unfold befRes at this; rw [if_pos hbo] at this; exact Prod.mk.inj this
                have HOl := Lib.hid (befQ_unit HM.out HOy.out hbo).ok
                have HOs := Lib.hid (cutS_unit HM.out HYs.out HCb.out).ok
                have hln := befQ_len (p1, p2) f
                obtain ⟨A5, c5, rfl, hr1, hr2, hrc⟩ := HR5.out
                unfold maxLen at hr2
                have HC5 := Lib.hid hrc
                clear hrc HR5
                go_wp2_with fail
                go_name_world V0 hV
                rw [hV] at HO5 HC5 hB5 hB6 hz5
                have hzl := HLe.out k
                rw [show [((a1, a2) : Q), (b1, b2)].length = 2 from rfl] at hzl
                generalize hql : befQ (p1, p2) f = l at *
                generalize hqs : cutS f [(a1, a2), (b1, b2)] k = s at *
                clear hV
                go_loopw [8, 59] (fun xs i wr => RelKsB l s w.heap.size V0 xs i wr) (fun _ i _ => l.length - (intOf i).toNat)
                case atStart => exact ⟨0, Nat.zero_le _, rfl, HO5.out, Below.refl _ _⟩
                case round =>
                  obtain ⟨j, hj2, rfl, hown, hbj⟩ := hrel
                  have HO := Lib.hid hown
                  have hBs := nextW hB6 hbj
                  have hBt := nextW hB5 hbj
                  have hzs : w.heap.size ≤ wr.heap.size := hBs.size
                  have HFo := Lib.hid (fold_ok HOl.out HOs.out j)
                  have hfl := fold_len l s j
                  clear hown
                  by_cases hlt2 : j < l.length
                  · have hx := List.getElem?_eq_getElem hlt2
                    generalize l[j] = x at *
                    obtain ⟨g5, o5, rfl, hg5, hc5⟩ := HC5.out (by rintro rfl; simp at hlt2)
                    obtain ⟨d0, d1⟩ := hc5 j _ hx
                    have HFn := Lib.hid (fold_next (s := s) hx)
                    have hox := HOl.out _ (List.mem_of_getElem? hx)
                    obtain ⟨x1, x2⟩ := x
                    have HOx := Lib.hid hox
                    replace d0 := cellB hbj d0
                    replace d1 := cellB hbj d1
                    have e0 : (0 : Int) ≤ (j : Int) := by omega
                    have e1 : (j : Int) < (l.length : Int) := by omega
                    have e2 : IntKind.i64.wrap ((j : Int) + 1) = (j : Int) + 1 := IntWalk.i64_in _ (by omega)
                    have e3 : IntKind.i64.wrap (j : Int) = (j : Int) := IntWalk.i64_in _ (by omega)
                    clear hx hox hc5
                    go_wp2_with fail
                    refine (imPut_is w.heap.size _ _ x1 x2 _ (HO.out.keep (by go_grown)) HFo.out HOx.out (by omega) (by go_size)).mono ?_
                    rintro e w6 ⟨r6, rfl, ow, hb6⟩
                    have hX6 : Below wr.heap.size wr w6 := nextX (by go_grown) hb6
                    have HO6 := Lib.hid ow
                    have hB7 := nextW hbj hX6
                    clear ow hb6 hX6 d0 d1
                    go_wp2_with fail
                    go_roundw
                    case rel => exact ⟨j + 1, by omega, by go_num, by rw [HFn.out]; exact HO6.out, hB7⟩
                    case measure => simp [intOf] <;> omega
                  · obtain rfl : j = l.length := by omega
                    have HE := Lib.hid (show OwQ w.heap.size 31 wr _ (l.foldl (fun l x => insQ x l) s) by have := HO.out; rwa [List.take_length] at this)
                    clear HO
                    go_wp2_with fail
                    go_roundw
                    case rel => exact ⟨k + 1, by omega, by go_num, by rw [HLn.out]; exact HE.out, by rw [HBn.out, HCb.out, hbo]; rfl, hBt⟩
                    case measure => simp [intOf] <;> omega
            · obtain rfl : k = 2 := by omega
              have hxs := clampXs_same HM.out HYs.out HCb.out
              have hok := clamp_cutOk HCb.out
              have hO2 := HO.out
              rw [hxs] at hO2
              obtain ⟨g1, cap1, rfl, hc1, hc2, -, hg1, hcell1⟩ := hO2.lit (n := (clampXs f (a1, a2) (b1, b2)).length) rfl (by omega)
              unfold maxLen at hc2
              have HC1 := Lib.hid hcell1
              have HBy := Lib.hid (show ((wr.cell? ⟨w.heap.size, 0, none⟩ = some (.int .i64 a1) ∧ wr.cell? ⟨w.heap.size, 1, none⟩ = some (.int .i64 a2)) ∧ wr.cell? ⟨w.heap.size + 1, 0, none⟩ = some (.int .i64 b1) ∧ wr.cell? ⟨w.heap.size + 1, 1, none⟩ = some (.int .i64 b2)) from ⟨⟨cellB hb HBx.out.1.1, cellB hb HBx.out.1.2⟩, cellB hb HBx.out.2.1, cellB hb HBx.out.2.2⟩)
              clear HO hO2 hcell1
              go_wp2_with fail
              go_name_world V0 hV
              rw [hV] at HC1 hBr hg1 HBy
              have hzv : w.heap.size ≤ V0.heap.size := hBr.size
              clear hV hb hzr
              go_loopw [15, 70] (fun out i wr => RelKsC f (a1, a2) (b1, b2) V0 out i wr) (fun _ i _ => (clampXs f (a1, a2) (b1, b2)).length - (intOf i).toNat)
              case atStart => exact ⟨0, Nat.zero_le _, rfl, World.ownsRow_nil _ _ _ _, by simp, Below.refl _ _⟩
              case round =>
                obtain ⟨k, hk3, rfl, hown, hal, hb⟩ := hrel
                have HO := Lib.hid hown
                have HAl := Lib.hid hal
                have hBs := nextW hBr hb
                have hzs : V0.heap.size ≤ wr.heap.size := hb.size
                clear hown hal
                by_cases hlt : k < (clampXs f (a1, a2) (b1, b2)).length
                · have hx := List.getElem?_eq_getElem hlt
                  generalize (clampXs f (a1, a2) (b1, b2))[k] = x at *
                  obtain ⟨c0, c1⟩ := HC1.out k _ hx
                  have hxm := List.mem_of_getElem? hx
                  have ux := HUx.out _ hxm
                  have hsn := clampL_get hx
                  have haln : ((clampXs f (a1, a2) (b1, b2)).take (k + 1)).all (fun x => (valQ f x).2) = (((clampXs f (a1, a2) (b1, b2)).take k).all (fun x => (valQ f x).2) && (valQ f x).2) := by rw [take_snoc_get hx, List.all_append]; simp
                  obtain ⟨x1, x2⟩ := x
                  rcases hy : valQ f (x1, x2) with ⟨⟨y1, y2⟩, ty⟩
                  have uy : unitQ y1 y2 = true := by have := valQ_unit (x := (x1, x2)) HM.out ux; rw [hy] at this; exact this
                  rcases hcv : clampV f (a1, a2) (b1, b2) (x1, x2) with ⟨z1, z2⟩
                  rw [hcv] at hsn
                  have hct : (valQ f (x1, x2)).2 = ty := by rw [hy]
                  rw [hct] at haln
                  obtain ⟨⟨d1, d2⟩, hd⟩ : ∃ d : Q, (if lessQ y1 y2 a1 a2 = true then (a1, a2) else (y1, y2)) = d := ⟨_, rfl⟩
                  have ud : unitQ d1 d2 = true := by
                    rcases hh : lessQ y1 y2 a1 a2 with _ | _
                    · rw [hh] at hd; simp at hd; obtain ⟨rfl, rfl⟩ := hd; exact uy
                    · rw [hh] at hd; simp at hd; obtain ⟨rfl, rfl⟩ := hd; exact HUa.out
                  have hcz : (if lessQ b1 b2 d1 d2 = true then (b1, b2) else (d1, d2)) = (z1, z2) := by
                    rw [← hcv]
                    unfold clampV
                    rw [hy]
                    simp only
                    rw [hd]
                  have HSn := Lib.hid hsn
                  have HAn := Lib.hid haln
                  have HXm := Lib.hid hxm
                  have HCt := Lib.hid hct
                  have HUx1 := Lib.hid ux
                  have HSy := Lib.hid (Sm.of_ok (unitQ_ok uy))
                  have HSd := Lib.hid (Sm.of_ok (unitQ_ok ud))
                  obtain ⟨ya, yb, hya, hyt⟩ := atQ_of hy
                  have HYa := Lib.hid hya
                  have HYt := Lib.hid hyt
                  obtain ⟨p, hp⟩ : ∃ p, cmpQ y1 y2 a1 a2 = p := ⟨_, rfl⟩
                  obtain ⟨q, hq⟩ : ∃ q, cmpQ b1 b2 d1 d2 = q := ⟨_, rfl⟩
                  have HP := Lib.hid hp
                  have HQ := Lib.hid hq
                  have HD := Lib.hid hd
                  have HZ := Lib.hid hcz
                  have HNr := Lib.hid (fun (b : Nat) (hb : wr.heap.size ≤ b) => show u15.ownBlock ≠ some b from fun hh => by have := (World.ownsRow.lt HO.out b hh).2; omega)
                  have HBr := Lib.hid (And.intro (And.intro (cellB hb HBy.out.1.1) (cellB hb HBy.out.1.2)) (And.intro (cellB hb HBy.out.2.1) (cellB hb HBy.out.2.2)))
                  replace c0 := cellB hb c0
                  replace c1 := cellB hb c1
                  have b0 : (0 : Int) ≤ (k : Int) := by omega
                  have b1' : (k : Int) < ((clampXs f (a1, a2) (b1, b2)).length : Int) := by omega
                  have v2 : IntKind.i64.wrap ((k : Int) + 1) = (k : Int) + 1 := IntWalk.i64_in _ (by omega)
                  have v3 : IntKind.i64.wrap (k : Int) = (k : Int) := IntWalk.i64_in _ (by omega)
                  have hlk : ((clampL f (a1, a2) (b1, b2)).take k).length ≤ 400 := by unfold clampL ptsQ; rw [List.length_take, List.length_map]; omega
                  clear hx ux hsn haln hy hct hcv uy ud hxm hya hyt hp hq hd hcz
                  go_wp2_with fail
                  refine (imAt_is f _ x1 x2 ya yb ty _ (HF.out.keep (nextX hBs (by go_grown))) HM.out HUx1.out HYa.out).mono ?_
                  rintro e w5 ⟨rfl, hb5⟩
                  have xb0 : w5.cell? ⟨wr.heap.size, 0, none⟩ = some (.int .i64 x1) := cellB hb5 (by simp [go_sem])
                  have xb1 : w5.cell? ⟨wr.heap.size, 1, none⟩ = some (.int .i64 x2) := cellB hb5 (by simp [go_sem])
                  have hX : Below wr.heap.size wr w5 := nextX (by go_grown) hb5
                  have e00 := cellB hX HBr.out.1.1
                  have e01 := cellB hX HBr.out.1.2
                  have e10 := cellB hX HBr.out.2.1
                  have e11 := cellB hX HBr.out.2.2
                  have HO5 := Lib.hid (HO.out.keep hX)
                  have hB5 := nextW hb hX
                  have hB6 := nextW hBs hX
                  have zx := lt_of_cell xb0
                  have ze1 := lt_of_cell e10
                  have ze0 : w.heap.size < w5.heap.size := by omega
                  have hz5 : V0.heap.size ≤ w5.heap.size := hB5.size
                  clear hb5 hX c0 c1 HO
                  rcases ty with _ | _
                  · obtain ⟨rfl, rfl⟩ := clamp_stop HRes.out (clampOk_no2 HXm.out HCt.out)
                    go_wp2_with fail
                    go_ret2
                    exact ⟨_, rfl, World.ownsRow_nil _ _ _ _, nextX hB6 (by go_grown)⟩
                  · obtain ⟨rfl, rfl⟩ := HYt.out rfl
                    go_wp2_with fail
                    refine (raCmp_is ya yb a1 a2 p HSy.out SA.out HP.out _).mono ?_
                    rintro e w6 ⟨rfl, hb6⟩
                    have hX : Below w5.heap.size w5 w6 := nextX (by go_grown) hb6
                    replace xb0 := cellB hX xb0
                    replace xb1 := cellB hX xb1
                    replace e00 := cellB hX e00
                    replace e01 := cellB hX e01
                    replace e10 := cellB hX e10
                    replace e11 := cellB hX e11
                    have s0 : Slot w6 w5.heap.size 0 (.int .i64 ya) := slotB hb6 ⟨by simp [go_sem], by simp [go_sem]⟩
                    have s1 : Slot w6 w5.heap.size 1 (.int .i64 yb) := slotB hb6 ⟨by simp [go_sem], by simp [go_sem]⟩
                    have HO6 := Lib.hid (HO5.out.keep hX)
                    have hB7 := nextW hB5 hX
                    have hB8 := nextW hB6 hX
                    have zs := lt_of_cell s0.1
                    have n1 : w.heap.size ≠ w5.heap.size := by omega
                    have n2 : w.heap.size + 1 ≠ w5.heap.size := by omega
                    have n3 : wr.heap.size ≠ w5.heap.size := by omega
                    have hz6 : V0.heap.size ≤ w6.heap.size := hB7.size
                    have zxw : wr.heap.size ≤ w5.heap.size := by omega
                    have HNo := Lib.hid (HNr.out _ zxw)
                    clear hb6 hX HO5
                    rcases hh : lessQ ya yb a1 a2 with _ | _
                    · obtain ⟨t1, t2⟩ := cmpL_no HP.out hh
                      obtain ⟨rfl, rfl⟩ : ya = d1 ∧ yb = d2 := by have := HD.out; rw [hh] at this; simpa using this
                      obtain ⟨q0, q0f⟩ := s0
                      obtain ⟨q1, q1f⟩ := s1
                      go_wp2_with fail
                      refine (raCmp_is b1 b2 ya yb q SB.out HSd.out HQ.out _).mono ?_
                      rintro e w7 ⟨rfl, hb7⟩
                      have hbu : But w5.heap.size w6 w7 := But.of_below hb7 (Nat.le_refl _)
                      have s0 := slotB hb7 ⟨q0, q0f⟩
                      have s1 := slotB hb7 ⟨q1, q1f⟩
                      replace xb0 := cellU hbu (by omega) xb0
                      replace xb1 := cellU hbu (by omega) xb1
                      replace e10 := cellU hbu (by omega) e10
                      replace e11 := cellU hbu (by omega) e11
                      have HO7 := Lib.hid (HO6.out.keepU hbu HNo.out)
                      have hB9 : Below V0.heap.size V0 w7 := But.below hB7 hbu hz5 hz6
                      have hB10 : Below w.heap.size w w7 := But.below hB8 hbu (by omega) (by omega)
                      have zs7 := lt_of_cell s0.1
                      have zx7 := lt_of_cell xb0
                      have hz7 : V0.heap.size ≤ w7.heap.size := hB9.size
                      clear hb7 q0 q0f q1 q1f e00 e01 HO6
                      rcases hk : lessQ b1 b2 ya yb with _ | _
                      · obtain ⟨t3, t4⟩ := cmpL_no HQ.out hk
                        obtain ⟨rfl, rfl⟩ : ya = z1 ∧ yb = z2 := by have := HZ.out; rw [hk] at this; simpa using this
                        obtain ⟨q0, q0f⟩ := s0
                        obtain ⟨q1, q1f⟩ := s1
                        go_wp2_with (at_builtin; refine append_p1 _ rfl _ _ rfl V0.heap.size _ ((clampL f (a1, a2) (b1, b2)).take k) rfl ?own _ _ x1 x2 ya yb rfl ?c0 ?c1 ?c2 ?c3 ?len ?base ?_)
                        case own => exact HO7.out.keep (by go_grown)
                        try (case c0 => simp [go_sem])
                        try (case c1 => simp [go_sem])
                        try (case c2 => simp [go_sem])
                        try (case c3 => simp [go_sem])
                        case len => omega
                        case base => first | go_size | (simp <;> omega)
                        intro v' w' hown h7
                        have hX7 : Below V0.heap.size w7 w' := Below.trans (by go_grown) h7
                        have HO9 := Lib.hid hown
                        have hB11 : Below V0.heap.size V0 w' := Below.trans hB9 hX7
                        have hR1 : OwP V0.heap.size 51 w' v' ((clampL f (a1, a2) (b1, b2)).take (k + 1)) := by rw [HSn.out]; exact HO9.out
                        have hR2 : ((clampXs f (a1, a2) (b1, b2)).take (k + 1)).all (fun x => (valQ f x).2) = true := by rw [HAn.out, HAl.out]; rfl
                        clear hown h7 hX7 xb0 xb1 q0 q0f q1 q1f
                        go_wp2_with fail
                        go_roundw
                        case rel => first | exact ⟨k + 1, by omega, by go_num, hR1, hR2, hB11⟩ | ((repeat apply Exists.intro); refine ⟨⟨k + 1, by omega, rfl, hR1, hR2, hB11⟩, ?_⟩; (repeat' (first | rfl | (refine And.intro rfl ?_) | go_num)))
                        case measure => simp [intOf] <;> omega
                      · obtain ⟨t3, t4⟩ := cmpL_yes HQ.out hk
                        obtain ⟨rfl, rfl⟩ : b1 = z1 ∧ b2 = z2 := by have := HZ.out; rw [hk] at this; simpa using this
                        obtain ⟨q0, q0f⟩ := s0
                        obtain ⟨q1, q1f⟩ := s1
                        have hbv : But w5.heap.size w7 _ := ((But.refl w5.heap.size w7).setCell (o := 0) (.int .i64 b1)).setCell (o := 1) (.int .i64 b2)
                        have HO8 := Lib.hid (HO7.out.keepU hbv HNo.out)
                        have hBv : Below V0.heap.size w7 _ := But.below (Below.refl _ _) hbv hz5 hz7
                        go_wp2_with (at_builtin; refine append_p1 _ rfl _ _ rfl V0.heap.size _ ((clampL f (a1, a2) (b1, b2)).take k) rfl ?own _ _ x1 x2 b1 b2 rfl ?c0 ?c1 ?c2 ?c3 ?len ?base ?_)
                        case own => exact HO8.out.keep (by go_grown)
                        try (case c0 => simp [go_sem])
                        try (case c1 => simp [go_sem])
                        try (case c2 => simp [go_sem])
                        try (case c3 => simp [go_sem])
                        case len => omega
                        case base => first | go_size | (simp <;> omega)
                        intro v' w' hown h7
                        have hX7 : Below V0.heap.size w7 w' := Below.trans (by first | go_grown | exact hBv.alloc (by simp <;> omega) _) h7
                        have HO9 := Lib.hid hown
                        have hB11 : Below V0.heap.size V0 w' := Below.trans hB9 hX7
                        have hR1 : OwP V0.heap.size 51 w' v' ((clampL f (a1, a2) (b1, b2)).take (k + 1)) := by rw [HSn.out]; exact HO9.out
                        have hR2 : ((clampXs f (a1, a2) (b1, b2)).take (k + 1)).all (fun x => (valQ f x).2) = true := by rw [HAn.out, HAl.out]; rfl
                        clear hown h7 hX7 xb0 xb1 q0 q0f q1 q1f
                        go_wp2_with fail
                        go_roundw
                        case rel => first | exact ⟨k + 1, by omega, by go_num, hR1, hR2, hB11⟩ | ((repeat apply Exists.intro); refine ⟨⟨k + 1, by omega, rfl, hR1, hR2, hB11⟩, ?_⟩; (repeat' (first | rfl | (refine And.intro rfl ?_) | go_num)))
                        case measure => simp [intOf] <;> omega
                    · obtain ⟨t1, t2⟩ := cmpL_yes HP.out hh
                      obtain ⟨rfl, rfl⟩ : a1 = d1 ∧ a2 = d2 := by have := HD.out; rw [hh] at this; simpa using this
                      obtain ⟨q0, q0f⟩ := s0
                      obtain ⟨q1, q1f⟩ := s1
                      go_wp2_with fail
                      refine (raCmp_is b1 b2 a1 a2 q SB.out HSd.out HQ.out _).mono ?_
                      rintro e w7 ⟨rfl, hb7⟩
                      have hst := stored2 ⟨q0, q0f⟩ ⟨q1, q1f⟩ (.int .i64 a1) (.int .i64 a2)
                      have hbu : But w5.heap.size w6 w7 := (((But.refl w5.heap.size w6).setCell (o := 0) (.int .i64 a1)).setCell (o := 1) (.int .i64 a2)).next hb7 (by simp)
                      have s0 := slotB hb7 hst.1
                      have s1 := slotB hb7 hst.2
                      replace xb0 := cellU hbu (by omega) xb0
                      replace xb1 := cellU hbu (by omega) xb1
                      replace e10 := cellU hbu (by omega) e10
                      replace e11 := cellU hbu (by omega) e11
                      have HO7 := Lib.hid (HO6.out.keepU hbu HNo.out)
                      have hB9 : Below V0.heap.size V0 w7 := But.below hB7 hbu hz5 hz6
                      have hB10 : Below w.heap.size w w7 := But.below hB8 hbu (by omega) (by omega)
                      have zs7 := lt_of_cell s0.1
                      have zx7 := lt_of_cell xb0
                      have hz7 : V0.heap.size ≤ w7.heap.size := hB9.size
                      clear hb7 q0 q0f q1 q1f e00 e01 HO6 hst
                      rcases hk : lessQ b1 b2 a1 a2 with _ | _
                      · obtain ⟨t3, t4⟩ := cmpL_no HQ.out hk
                        obtain ⟨rfl, rfl⟩ : a1 = z1 ∧ a2 = z2 := by have := HZ.out; rw [hk] at this; simpa using this
                        obtain ⟨q0, q0f⟩ := s0
                        obtain ⟨q1, q1f⟩ := s1
                        go_wp2_with (at_builtin; refine append_p1 _ rfl _ _ rfl V0.heap.size _ ((clampL f (a1, a2) (b1, b2)).take k) rfl ?own _ _ x1 x2 a1 a2 rfl ?c0 ?c1 ?c2 ?c3 ?len ?base ?_)
                        case own => exact HO7.out.keep (by go_grown)
                        try (case c0 => simp [go_sem])
                        try (case c1 => simp [go_sem])
                        try (case c2 => simp [go_sem])
                        try (case c3 => simp [go_sem])
                        case len => omega
                        case base => first | go_size | (simp <;> omega)
                        intro v' w' hown h7
                        have hX7 : Below V0.heap.size w7 w' := Below.trans (by go_grown) h7
                        have HO9 := Lib.hid hown
                        have hB11 : Below V0.heap.size V0 w' := Below.trans hB9 hX7
                        have hR1 : OwP V0.heap.size 51 w' v' ((clampL f (a1, a2) (b1, b2)).take (k + 1)) := by rw [HSn.out]; exact HO9.out
                        have hR2 : ((clampXs f (a1, a2) (b1, b2)).take (k + 1)).all (fun x => (valQ f x).2) = true := by rw [HAn.out, HAl.out]; rfl
                        clear hown h7 hX7 xb0 xb1 q0 q0f q1 q1f
                        go_wp2_with fail
                        go_roundw
                        case rel => first | exact ⟨k + 1, by omega, by go_num, hR1, hR2, hB11⟩ | ((repeat apply Exists.intro); refine ⟨⟨k + 1, by omega, rfl, hR1, hR2, hB11⟩, ?_⟩; (repeat' (first | rfl | (refine And.intro rfl ?_) | go_num)))
                        case measure => simp [intOf] <;> omega
                      · obtain ⟨t3, t4⟩ := cmpL_yes HQ.out hk
                        obtain ⟨rfl, rfl⟩ : b1 = z1 ∧ b2 = z2 := by have := HZ.out; rw [hk] at this; simpa using this
                        obtain ⟨q0, q0f⟩ := s0
                        obtain ⟨q1, q1f⟩ := s1
                        have hbv : But w5.heap.size w7 _ := ((But.refl w5.heap.size w7).setCell (o := 0) (.int .i64 b1)).setCell (o := 1) (.int .i64 b2)
                        have HO8 := Lib.hid (HO7.out.keepU hbv HNo.out)
                        have hBv : Below V0.heap.size w7 _ := But.below (Below.refl _ _) hbv hz5 hz7
                        go_wp2_with (at_builtin; refine append_p1 _ rfl _ _ rfl V0.heap.size _ ((clampL f (a1, a2) (b1, b2)).take k) rfl ?own _ _ x1 x2 b1 b2 rfl ?c0 ?c1 ?c2 ?c3 ?len ?base ?_)
                        case own => exact HO8.out.keep (by go_grown)
                        try (case c0 => simp [go_sem])
                        try (case c1 => simp [go_sem])
                        try (case c2 => simp [go_sem])
                        try (case c3 => simp [go_sem])
                        case len => omega
                        case base => first | go_size | (simp <;> omega)
                        intro v' w' hown h7
                        have hX7 : Below V0.heap.size w7 w' := Below.trans (by first | go_grown | exact hBv.alloc (by simp <;> omega) _) h7
                        have HO9 := Lib.hid hown
                        have hB11 : Below V0.heap.size V0 w' := Below.trans hB9 hX7
                        have hR1 : OwP V0.heap.size 51 w' v' ((clampL f (a1, a2) (b1, b2)).take (k + 1)) := by rw [HSn.out]; exact HO9.out
                        have hR2 : ((clampXs f (a1, a2) (b1, b2)).take (k + 1)).all (fun x => (valQ f x).2) = true := by rw [HAn.out, HAl.out]; rfl
                        clear hown h7 hX7 xb0 xb1 q0 q0f q1 q1f
                        go_wp2_with fail
                        go_roundw
                        case rel => first | exact ⟨k + 1, by omega, by go_num, hR1, hR2, hB11⟩ | ((repeat apply Exists.intro); refine ⟨⟨k + 1, by omega, rfl, hR1, hR2, hB11⟩, ?_⟩; (repeat' (first | rfl | (refine And.intro rfl ?_) | go_num)))
                        case measure => simp [intOf] <;> omega
                · obtain rfl : k = (clampXs f (a1, a2) (b1, b2)).length := by omega
                  have hav : (clampXs f (a1, a2) (b1, b2)).all (fun x => (valQ f x).2) = true := by have := HAl.out; rwa [List.take_length] at this
                  have HE := Lib.hid (show OwP V0.heap.size 51 wr u15 (clampL f (a1, a2) (b1, b2)) by have := HO.out; rwa [List.take_of_length_le (by unfold clampL ptsQ; simp)] at this)
                  have hmq : madeQ (clampL f (a1, a2) (b1, b2)) = (m, t) := by have := HRes.out; rwa [if_pos (by unfold clampOk; rw [hok, hav]; rfl)] at this
                  clear HO
                  go_wp2_with fail
                  refine (coIf_is (clampL f (a1, a2) (b1, b2)) _ m t hmq HJ.out _ (HE.out.read.keep (by go_grown))).mono ?_
                  rintro e w7 ⟨r7, rfl, ow7, hb7⟩
                  have hX7 : Below wr.heap.size wr w7 := nextX (by go_grown) hb7
                  have HO7 := Lib.hid (ow7.low (b := w.heap.size) (by go_size))
                  have hB7 := nextX hBs hX7
                  clear ow7 hb7 hX7
                  go_wp2_with fail
                  go_ret2
                  exact ⟨_, rfl, HO7.out, hB7⟩
        · have g1 : 0 < y := hgt.2 hs
          have g2 : decide (0 < y) = true := by simpa using g1
          obtain ⟨rfl, rfl⟩ := clampQ_no HL.out (show clampAsk f (a1, a2) (b1, b2) = false by unfold clampAsk; rw [hs]; simp)
          clear hm ua ub hs hgt hy
          go_enter Tryz.func32, Tryz.ntmps32
          go_wp2_with fail
          refine (imGood_is f _ true _ (HF.out.keep (by go_grown)) hn HM.out).mono ?_
          rintro e w1 ⟨rfl, hb⟩
          have hX : Below w.heap.size w w1 := nextX (by go_grown) hb
          have b00 : w1.cell? ⟨w.heap.size, 0, none⟩ = some (.int .i64 a1) := cellB hb (by simp [go_sem])
          have b01 : w1.cell? ⟨w.heap.size, 1, none⟩ = some (.int .i64 a2) := cellB hb (by simp [go_sem])
          have b10 : w1.cell? ⟨w.heap.size + 1, 0, none⟩ = some (.int .i64 b1) := cellB hb (by simp [go_sem])
          have b11 : w1.cell? ⟨w.heap.size + 1, 1, none⟩ = some (.int .i64 b2) := cellB hb (by simp [go_sem])
          have zb00 := lt_of_cell b00
          have zb10 := lt_of_cell b10
          have hB : Below w.heap.size w w1 := hX
          clear hb hX
          go_wp2_with fail
          refine (raUnit_any a1 a2 _).mono ?_
          rintro e w2 ⟨he, hb⟩
          rw [HUa.out] at he
          subst he
          have hX : Below w1.heap.size w1 w2 := nextX (by go_grown) hb
          replace b00 := cellB hX b00
          replace b01 := cellB hX b01
          replace b10 := cellB hX b10
          replace b11 := cellB hX b11
          have zb00 := Nat.lt_of_lt_of_le zb00 hX.size
          have zb10 := Nat.lt_of_lt_of_le zb10 hX.size
          replace hB := nextW hB hX
          clear hb hX
          go_wp2_with fail
          refine (raUnit_any b1 b2 _).mono ?_
          rintro e w3 ⟨he, hb⟩
          rw [HUb.out] at he
          subst he
          have hX : Below w2.heap.size w2 w3 := nextX (by go_grown) hb
          replace b00 := cellB hX b00
          replace b01 := cellB hX b01
          replace b10 := cellB hX b10
          replace b11 := cellB hX b11
          have zb00 := Nat.lt_of_lt_of_le zb00 hX.size
          have zb10 := Nat.lt_of_lt_of_le zb10 hX.size
          replace hB := nextW hB hX
          clear hb hX
          go_wp2_with fail
          refine (raCmp_is a1 a2 b1 b2 y SA.out SB.out HY.out _).mono ?_
          rintro e w4 ⟨rfl, hb⟩
          have hX : Below w3.heap.size w3 w4 := nextX (by go_grown) hb
          replace b00 := cellB hX b00
          replace b01 := cellB hX b01
          replace b10 := cellB hX b10
          replace b11 := cellB hX b11
          have zb00 := Nat.lt_of_lt_of_le zb00 hX.size
          have zb10 := Nat.lt_of_lt_of_le zb10 hX.size
          replace hB := nextW hB hX
          clear hb hX
          go_wp2_with fail
          go_ret2
          exact ⟨_, rfl, World.ownsRow_nil _ _ _ _, hB⟩

end Go.Proofs.YtkeajfgcjmhmiaaGreat
