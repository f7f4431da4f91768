/- The program's MiddleMap. -/
import Derived.Test.YtkaekjhcphgldaaGreatPtsM
import Derived.Test.YtkaekjhcphgldaaGreatBotC
import Derived.Test.YtkaekjhcphgldaaGreatJoinB
namespace Go.Proofs.YtkaekjhcphgldaaGreat
open Go.RowKit

theorem setQ_idem {cs : List Q} (h : OkL cs) : setQ (setQ cs) = setQ cs :=
  (setQ_of (fun x hx => h x ((setQ_mem cs x).1 hx)) (setQ_up h) (fun _ => Iff.rfl)).symm
theorem bothQ_ok {f g : List Pt} (hf : okMap f = true) (hg : okMap g = true) : OkL (bothQ f g) := fun x hx => unitQ_ok (bothQ_unit hf hg x hx)
theorem bothQ_up {f g : List Pt} (hf : okMap f = true) (hg : okMap g = true) : UpQ (bothQ f g) := setQ_up ((okL_xs hf).app (okL_xs hg))
theorem bothQ_set {f g : List Pt} (hf : okMap f = true) (hg : okMap g = true) : setQ (bothQ f g) = bothQ f g := setQ_idem ((okL_xs hf).app (okL_xs hg))
theorem bothQ_two {f g : List Pt} (hf : okMap f = true) (hg : okMap g = true) : 2 ≤ (bothQ f g).length := by
  have h1 := bothTo_len f g 0
  have h2 := bothTo_all hf hg
  have hl := okMap_len hf
  have mono : ∀ k, k ≤ g.length → f.length ≤ (bothTo f g k).length := by
    intro k
    induction k with
    | zero => intro _; rw [bothTo_zero, List.length_map]; exact Nat.le_refl _
    | succ k ih =>
      intro hk
      have := ih (by omega)
      rw [bothTo_next (List.getElem?_eq_getElem (show k < g.length by omega))]
      have ge : ∀ (x : Q) (l : List Q), l.length ≤ (insQ x l).length := by
        intro x l
        induction l with
        | nil => simp
        | cons y r ih2 =>
          unfold insQ
          split
          · rw [List.length_cons, List.length_cons]; omega
          · split <;> simp
      exact Nat.le_trans this (ge _ _)
  have := mono g.length (Nat.le_refl _)
  rw [h2] at this
  omega
theorem mid_unit {y z : Q} (hy : unitQ y.1 y.2 = true) (hz : unitQ z.1 z.2 = true) : unitQ (keepQ (midQ y.1 y.2 z.1 z.2)).1 (keepQ (midQ y.1 y.2 z.1 z.2)).2 = true := by
  obtain ⟨o1, a1, b1⟩ := unitQ_iff.1 hy
  obtain ⟨o2, a2, b2⟩ := unitQ_iff.1 hz
  rw [midQ_fit o1 o2]
  rcases hf : fitR ((toR (y.1, y.2) + toR (z.1, z.2)) / 2) with ⟨a, b, t⟩
  cases t with
  | false => show unitQ 0 1 = true; decide
  | true =>
    obtain ⟨e, ok⟩ := fitR_yes hf
    show unitQ a b = true
    rw [unitQ_iff]
    refine ⟨ok, ?_, ?_⟩ <;> rw [e] <;> grind
def midL (f g : List Pt) : List Pt := (bothQ f g).map (midPt f g)
theorem midL_joined {f g : List Pt} (hf : okMap f = true) (hg : okMap g = true) : Joined (midL f g) where
  unit := fun p hp => by
    unfold midL at hp
    obtain ⟨x, hx, rfl⟩ := List.mem_map.1 hp
    have ux := bothQ_unit hf hg x hx
    exact ⟨ux, mid_unit (valQ_unit hf ux) (valQ_unit hg ux)⟩
  up := by
    unfold midL UpP
    rw [List.pairwise_map]
    exact bothQ_up hf hg
  len := by
    unfold midL
    rw [List.length_map]
    have h1 := bothQ_two hf hg
    have h2 := bothQ_len f g
    have l1 := okMap_len hf
    have l2 := okMap_len hg
    omega
/-- What MiddleMap gives. -/
def midMapQ (f g : List Pt) : List Pt × Bool := if (okMap f && okMap g) = true then (if allM f g (bothQ f g) = true then madeQ (midL f g) else ([], false)) else ([], false)
theorem midMapQ_len {f g m : List Pt} {t : Bool} (h : midMapQ f g = (m, t)) : m.length ≤ 1048576 := by
  unfold midMapQ at h
  split at h
  · split at h
    · exact madeQ_len h
    · obtain ⟨rfl, -⟩ := Prod.mk.inj h; simp
  · obtain ⟨rfl, -⟩ := Prod.mk.inj h; simp

set_option maxRecDepth 100000 in
set_option maxHeartbeats 3200000 in
theorem iMiddleMap_is (f g : List Pt) (vf vg : Value) (m : List Pt) (t : Bool) (hl : midMapQ f g = (m, t)) (w : World) (hf : RdP w vf f) (hg : RdP w vg g) (hn : f.length ≤ 1048576) (hk : g.length ≤ 1048576) :
    Calls Tryz.prog 11 #[vf, vg] w (RetPB w m t) := by
  have HF := Lib.hid hf
  have HG := Lib.hid hg
  have HL := Lib.hid hl
  obtain ⟨A1, c1, rfl, -, -, -⟩ := hf
  obtain ⟨A2, c2, rfl, -, -, -⟩ := hg
  rcases hm1 : okMap f with _ | _
  · obtain ⟨rfl, rfl⟩ : [] = m ∧ false = t := by have := HL.out; unfold midMapQ at this; rw [if_neg (by rw [hm1]; simp)] at this; exact Prod.mk.inj this
    have HM := Lib.hid hm1
    clear hl hm1
    go_enter Tryz.func11, Tryz.ntmps11
    go_wp2_with fail
    refine (isMap_is f _ false _ (HF.out.keep (by go_grown)) hn HM.out).mono ?_
    rintro e w1 ⟨rfl, hb⟩
    have hB : Below w.heap.size w w1 := nextX (by go_grown) hb
    go_wp2_with fail
    go_ret2
    exact ⟨_, rfl, World.ownsRow_nil _ _ _ _, hB⟩
  · have HM1 := Lib.hid hm1
    obtain ⟨u, hm2⟩ : ∃ u, okMap g = u := ⟨_, rfl⟩
    have HM2 := Lib.hid hm2
    have HOf := Lib.hid (fun (x : Nat) (hx : w.heap.size ≤ x) => HF.out.old (okMap_ne hm1) (g := x) hx)
    clear hl
    go_enter Tryz.func11, Tryz.ntmps11
    go_wp2_with fail
    refine (isMap_is f _ true _ (HF.out.keep (by go_grown)) hn HM1.out).mono ?_
    rintro e w1 ⟨rfl, hb⟩
    have f1 : w1.cell? ⟨w.heap.size, 0, none⟩ = some (.slice A1 f.length c1) := cellB hb (by simp [go_sem])
    have g1 : w1.cell? ⟨w.heap.size + 1, 0, none⟩ = some (.slice A2 g.length c2) := cellB hb (by simp [go_sem])
    have hB : Below w.heap.size w w1 := nextX (by go_grown) hb
    have zf := lt_of_cell f1
    have zg := lt_of_cell g1
    clear hb
    go_wp2_with fail
    refine (isMap_is g _ u _ (HG.out.keep hB) hk HM2.out).mono ?_
    rintro e w2 ⟨rfl, hb⟩
    have hX2 : Below w1.heap.size w1 w2 := nextX (by go_grown) hb
    replace f1 := cellB hX2 f1
    replace g1 := cellB hX2 g1
    replace zf := lt_of_cell f1
    replace zg := lt_of_cell g1
    replace hB := nextX hB hX2
    clear hb hX2
    rcases u with _ | _
    · obtain ⟨rfl, rfl⟩ : [] = m ∧ false = t := by have := HL.out; unfold midMapQ at this; rw [if_neg (by rw [HM2.out]; simp)] at this; exact Prod.mk.inj this
      go_wp2_with fail
      go_ret2
      exact ⟨_, rfl, World.ownsRow_nil _ _ _ _, hB⟩
    · have HOg := Lib.hid (fun (x : Nat) (hx : w.heap.size ≤ x) => HG.out.old (okMap_ne hm2) (g := x) hx)
      have hres : (if allM f g (bothQ f g) = true then madeQ (midL f g) else ([], false)) = (m, t) := by have := HL.out; unfold midMapQ at this; rwa [if_pos (by rw [hm1, hm2]; rfl)] at this
      have HRes := Lib.hid hres
      have l1 := okMap_len hm1
      have l2 := okMap_len hm2
      have hbl := bothQ_len f g
      have hb2 := bothQ_two hm1 hm2
      have hzw := hB.size
      clear hres hm1 hm2
      go_wp2_with fail
      refine (bothAt_is f g _ _ _ (HF.out.keep (nextX hB (by go_grown))) (HG.out.keep (nextX hB (by go_grown))) HM1.out HM2.out).mono ?_
      rintro e w4 ⟨r1, rfl, os1, hb⟩
      have hX4 : Below w2.heap.size w2 w4 := nextX (by go_grown) hb
      have sc : Slot w4 w2.heap.size 0 (.bool false) := slotB hb ⟨by simp [go_sem], by simp [go_sem]⟩
      have f4 := cellB hX4 f1
      have g4 := cellB hX4 g1
      replace hB := nextX hB hX4
      have zc := lt_of_cell sc.1
      have hO4 : OwQ (w2.heap.size + 1) 36 w4 r1 (bothQ f g) := os1.low (by simp)
      have hpt := ptsMid_is f g (bothQ f g) r1 (.slice A1 f.length c1) (.slice A2 g.length c2) false w2.heap.size w.heap.size (w.heap.size + 1) w4 hO4 (bothQ_ok HM1.out HM2.out) (bothQ_unit HM1.out HM2.out) (by omega) sc ⟨f4, g4, HF.out.keep hB, HG.out.keep hB⟩ zf zg (HOf.out _ (by omega)) (HOg.out _ (by omega)) HM1.out HM2.out
      rw [bothQ_set HM1.out HM2.out] at hpt
      have HPt := Lib.hid hpt
      have hz4 : w2.heap.size < w4.heap.size := zc
      clear os1 hb hX4 sc f4 g4 f1 g1 hO4 hpt zc
      go_wp2_with fail
      refine (HPt.out).mono ?_
      rintro e w6 ⟨r6, rfl, os6, sc6, hb6⟩
      have hB6 : Below w.heap.size w w6 := Below.trans hB (hb6.mono (by omega))
      have hz6 : w2.heap.size < w6.heap.size := lt_of_cell sc6.1
      have HR6 := Lib.hid (show RdP w6 r6 (midL f g) from os6.read)
      have hcc := sc6.1
      rw [Bool.false_or] at hcc
      have HCc := Lib.hid hcc
      have HB6 := Lib.hid hB6
      clear os6 sc6 hb6 hB6 HPt hcc hB
      go_wp2_with fail
      refine (finish_is (midL f g) _ (!allM f g (bothQ f g)) m t w2.heap.size (by rw [← HRes.out]; cases allM f g (bothQ f g) <;> rfl) (midL_joined HM1.out HM2.out) _ HCc.out HR6.out).mono ?_
      rintro e w7 ⟨r7, rfl, ow7, hb7⟩
      have HO7 := Lib.hid (ow7.low (b := w.heap.size) (by omega))
      have hB7 := nextX HB6.out hb7
      clear ow7 hb7
      go_wp2_with fail
      go_ret2
      exact ⟨_, rfl, HO7.out, hB7⟩

end Go.Proofs.YtkaekjhcphgldaaGreat
