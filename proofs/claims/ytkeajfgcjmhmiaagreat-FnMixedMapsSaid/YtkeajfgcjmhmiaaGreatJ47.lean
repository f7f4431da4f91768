/- The program's MiddleMap. · Plain: refined and joined maps keep their values, middles are the same both ways, clamped maps stay within their bounds. -/
import Derived.Test.YtkeajfgcjmhmiaaGreatJ22
import Derived.Test.YtkeajfgcjmhmiaaGreatJ29
import Derived.Test.YtkeajfgcjmhmiaaGreatJ36
import Derived.Test.YtkeajfgcjmhmiaaGreatJ44
namespace Go.Proofs.YtkeajfgcjmhmiaaGreat
open Go.RowKit

theorem setQ_idem {cs : List Q} (h : OkL cs) : setQ (setQ cs) = setQ cs :=
  (setQ_of (fun x hx => h x ((setQ_mem cs x).1 hx)) (setQ_up h) (fun _ => Iff.rfl)).symm
theorem bothQ_ok {f g : List Pt} (hf : okMap f = true) (hg : okMap g = true) : OkL (bothQ f g) := fun x hx => unitQ_ok (bothQ_unit hf hg x hx)
theorem bothQ_up {f g : List Pt} (hf : okMap f = true) (hg : okMap g = true) : UpQ (bothQ f g) := setQ_up ((okL_xs hf).app (okL_xs hg))
theorem bothQ_set {f g : List Pt} (hf : okMap f = true) (hg : okMap g = true) : setQ (bothQ f g) = bothQ f g := setQ_idem ((okL_xs hf).app (okL_xs hg))
theorem bothQ_two {f g : List Pt} (hf : okMap f = true) (hg : okMap g = true) : 2 ≤ (bothQ f g).length := by
  have h1 := bothTo_len f g 0
  have h2 := bothTo_all hf hg
  have hl := okMap_len hf
  have mono : ∀ k, k ≤ g.length → f.length ≤ (bothTo f g k).length := by
    intro k
    induction k with
    | zero => intro _; rw [bothTo_zero, List.length_map]; exact Nat.le_refl _
    | succ k ih =>
      intro hk
      have := ih (by omega)
      rw [bothTo_next (List.getElem?_eq_getElem (show k < g.length by omega))]
      have ge : ∀ (x : Q) (l : List Q), l.length ≤ (insQ x l).length := by
        intro x l
        induction l with
        | nil => simp
        | cons y r ih2 =>
          unfold insQ
          split
          · rw [List.length_cons, List.length_cons]; omega
          · split <;> simp
      exact Nat.le_trans this (ge _ _)
  have := mono g.length (Nat.le_refl _)
  rw [h2] at this
  omega
theorem mid_unit {y z : Q} (hy : unitQ y.1 y.2 = true) (hz : unitQ z.1 z.2 = true) : unitQ (keepQ (midQ y.1 y.2 z.1 z.2)).1 (keepQ (midQ y.1 y.2 z.1 z.2)).2 = true := by
  obtain ⟨o1, a1, b1⟩ := unitQ_iff.1 hy
  obtain ⟨o2, a2, b2⟩ := unitQ_iff.1 hz
  rw [midQ_fit o1 o2]
  rcases hf : fitR ((toR (y.1, y.2) + toR (z.1, z.2)) / 2) with ⟨a, b, t⟩
  cases t with
  | false => show unitQ 0 1 = true; decide
  | true =>
    obtain ⟨e, ok⟩ := fitR_yes hf
    show unitQ a b = true
    rw [unitQ_iff]
    refine ⟨ok, ?_, ?_⟩ <;> rw [e] <;> grind
def midL (f g : List Pt) : List Pt := (bothQ f g).map (midPt f g)
theorem midL_joined {f g : List Pt} (hf : okMap f = true) (hg : okMap g = true) : Joined (midL f g) where
  unit := fun p hp => by
    unfold midL at hp
    obtain ⟨x, hx, rfl⟩ := List.mem_map.1 hp
    have ux := bothQ_unit hf hg x hx
    exact ⟨ux, mid_unit (valQ_unit hf ux) (valQ_unit hg ux)⟩
  up := by
    unfold midL UpP
    rw [List.pairwise_map]
    exact bothQ_up hf hg
  len := by
    unfold midL
    rw [List.length_map]
    have h1 := bothQ_two hf hg
    have h2 := bothQ_len f g
    have l1 := okMap_len hf
    have l2 := okMap_len hg
    omega
/-- What MiddleMap gives. -/
def midMapQ (f g : List Pt) : List Pt × Bool := if (okMap f && okMap g) = true then (if allM f g (bothQ f g) = true then madeQ (midL f g) else ([], false)) else ([], false)
theorem midMapQ_len {f g m : List Pt} {t : Bool} (h : midMapQ f g = (m, t)) : m.length ≤ 1048576 := by
  unfold midMapQ at h
  split at h
  · split at h
    · exact madeQ_len h
    · obtain ⟨rfl, -⟩ := Prod.mk.inj h; simp
  · obtain ⟨rfl, -⟩ := Prod.mk.inj h; simp

set_option maxRecDepth 100000 in
set_option maxHeartbeats 3200000 in
theorem iMiddleMap_is (f g : List Pt) (vf vg : Value) (m : List Pt) (t : Bool) (hl : midMapQ f g = (m, t)) (w : World) (hf : RdP w vf f) (hg : RdP w vg g) (hn : f.length ≤ 1048576) (hk : g.length ≤ 1048576) :
    Calls Tryz.prog 35 #[vf, vg] w (RetPB w m t) := by
  have HF := Lib.hid hf
  have HG := Lib.hid hg
  have HL := Lib.hid hl
  obtain ⟨A1, c1, rfl, -, -, -⟩ := hf
  obtain ⟨A2, c2, rfl, -, -, -⟩ := hg
  rcases hm1 : okMap f with _ | _
  · obtain ⟨rfl, rfl⟩ : [] = m ∧ false = t := by have := HL.out; unfold midMapQ at this; rw [if_neg (by rw [hm1]; simp)] at this; exact Prod.mk.inj this
    have HM := Lib.hid hm1
    clear hl hm1
    go_enter Tryz.func35, Tryz.ntmps35
    go_wp2_with fail
    refine (isMap_is f _ false _ (HF.out.keep (by go_grown)) hn HM.out).mono ?_
    rintro e w1 ⟨rfl, hb⟩
    have hB : Below w.heap.size w w1 := nextX (by go_grown) hb
    go_wp2_with fail
    go_ret2
    exact ⟨_, rfl, World.ownsRow_nil _ _ _ _, hB⟩
  · have HM1 := Lib.hid hm1
    obtain ⟨u, hm2⟩ : ∃ u, okMap g = u := ⟨_, rfl⟩
    have HM2 := Lib.hid hm2
    have HOf := Lib.hid (fun (x : Nat) (hx : w.heap.size ≤ x) => HF.out.old (okMap_ne hm1) (g := x) hx)
    clear hl
    go_enter Tryz.func35, Tryz.ntmps35
    go_wp2_with fail
    refine (isMap_is f _ true _ (HF.out.keep (by go_grown)) hn HM1.out).mono ?_
    rintro e w1 ⟨rfl, hb⟩
    have f1 : w1.cell? ⟨w.heap.size, 0, none⟩ = some (.slice A1 f.length c1) := cellB hb (by simp [go_sem])
    have g1 : w1.cell? ⟨w.heap.size + 1, 0, none⟩ = some (.slice A2 g.length c2) := cellB hb (by simp [go_sem])
    have hB : Below w.heap.size w w1 := nextX (by go_grown) hb
    have zf := lt_of_cell f1
    have zg := lt_of_cell g1
    clear hb
    go_wp2_with fail
    refine (isMap_is g _ u _ (HG.out.keep hB) hk HM2.out).mono ?_
    rintro e w2 ⟨rfl, hb⟩
    have hX2 : Below w1.heap.size w1 w2 := nextX (by go_grown) hb
    replace f1 := cellB hX2 f1
    replace g1 := cellB hX2 g1
    replace zf := lt_of_cell f1
    replace zg := lt_of_cell g1
    replace hB := nextX hB hX2
    clear hb hX2
    rcases u with _ | _
    · obtain ⟨rfl, rfl⟩ : [] = m ∧ false = t := by have := HL.out; unfold midMapQ at this; rw [if_neg (by rw [HM2.out]; simp)] at this; exact Prod.mk.inj this
      go_wp2_with fail
      go_ret2
      exact ⟨_, rfl, World.ownsRow_nil _ _ _ _, hB⟩
    · have HOg := Lib.hid (fun (x : Nat) (hx : w.heap.size ≤ x) => HG.out.old (okMap_ne hm2) (g := x) hx)
      have hres : (if allM f g (bothQ f g) = true then madeQ (midL f g) else ([], false)) = (m, t) := by have := HL.out; unfold midMapQ at this; rwa [if_pos (by rw [hm1, hm2]; rfl)] at this
      have HRes := Lib.hid hres
      have l1 := okMap_len hm1
      have l2 := okMap_len hm2
      have hbl := bothQ_len f g
      have hb2 := bothQ_two hm1 hm2
      have hzw := hB.size
      clear hres hm1 hm2
      go_wp2_with fail
      refine (bothAt_is f g _ _ _ (HF.out.keep (nextX hB (by go_grown))) (HG.out.keep (nextX hB (by go_grown))) HM1.out HM2.out).mono ?_
      rintro e w4 ⟨r1, rfl, os1, hb⟩
      have hX4 : Below w2.heap.size w2 w4 := nextX (by go_grown) hb
      have sc : Slot w4 w2.heap.size 0 (.bool false) := slotB hb ⟨by simp [go_sem], by simp [go_sem]⟩
      have f4 := cellB hX4 f1
      have g4 := cellB hX4 g1
      replace hB := nextX hB hX4
      have zc := lt_of_cell sc.1
      have hO4 : OwQ (w2.heap.size + 1) 31 w4 r1 (bothQ f g) := os1.low (by simp)
      have hpt := ptsMid_is f g (bothQ f g) r1 (.slice A1 f.length c1) (.slice A2 g.length c2) false w2.heap.size w.heap.size (w.heap.size + 1) w4 hO4 (bothQ_ok HM1.out HM2.out) (bothQ_unit HM1.out HM2.out) (by omega) sc ⟨f4, g4, HF.out.keep hB, HG.out.keep hB⟩ zf zg (HOf.out _ (by omega)) (HOg.out _ (by omega)) HM1.out HM2.out
      rw [bothQ_set HM1.out HM2.out] at hpt
      have HPt := Lib.hid hpt
      have hz4 : w2.heap.size < w4.heap.size := zc
      clear os1 hb hX4 sc f4 g4 f1 g1 hO4 hpt zc
      go_wp2_with fail
      refine (HPt.out).mono ?_
      rintro e w6 ⟨r6, rfl, os6, sc6, hb6⟩
      have hB6 : Below w.heap.size w w6 := Below.trans hB (hb6.mono (by omega))
      have hz6 : w2.heap.size < w6.heap.size := lt_of_cell sc6.1
      have HR6 := Lib.hid (show RdP w6 r6 (midL f g) from os6.read)
      have hcc := sc6.1
      rw [Bool.false_or] at hcc
      have HCc := Lib.hid hcc
      have HB6 := Lib.hid hB6
      clear os6 sc6 hb6 hB6 HPt hcc hB
      go_wp2_with fail
      refine (finish_is (midL f g) _ (!allM f g (bothQ f g)) m t w2.heap.size (by rw [← HRes.out]; cases allM f g (bothQ f g) <;> rfl) (midL_joined HM1.out HM2.out) _ HCc.out HR6.out).mono ?_
      rintro e w7 ⟨r7, rfl, ow7, hb7⟩
      have HO7 := Lib.hid (ow7.low (b := w.heap.size) (by omega))
      have hB7 := nextX HB6.out hb7
      clear ow7 hb7
      go_wp2_with fail
      go_ret2
      exact ⟨_, rfl, HO7.out, hB7⟩

end Go.Proofs.YtkeajfgcjmhmiaaGreat

namespace Go.Proofs.YtkeajfgcjmhmiaaGreat
open Go.RowKit

/-- A refined map is the same map, with no less points. -/
theorem refine_law {f r : List Pt} {xs : List Q} (h : refineQ f xs = (r, true)) : okMap r = true ∧ f.length ≤ r.length ∧ sameQ f r = (true, true) := by
  unfold refineQ at h
  split at h
  · rename_i hh
    unfold refAsk at hh
    rw [Bool.and_eq_true, Bool.and_eq_true, decide_eq_true_iff] at hh
    obtain ⟨⟨hf, -⟩, hx⟩ := hh
    unfold refRes at h
    split at h
    · rename_i h2
      rw [Bool.and_eq_true] at h2
      obtain ⟨rfl, -⟩ := Prod.mk.inj h
      obtain ⟨ha, hm⟩ := h2
      have hxo : OkL xs := fun q hq => unitQ_ok (List.all_eq_true.1 hx q hq)
      have hall : OkL (f.map (·.1) ++ xs) := fun q hq => by
        rcases List.mem_append.1 hq with hq | hq
        · exact (xs_unit hf).ok q hq
        · exact hxo q hq
      have hun : ∀ x ∈ refAll f xs, unitQ x.1 x.2 = true := fun x hx2 => by
        unfold refAll at hx2
        rw [setQ_mem, List.mem_append] at hx2
        rcases hx2 with hq | hq
        · exact xs_unit hf x hq
        · exact List.all_eq_true.1 hx x hq
      have hlen : f.length ≤ (refOut f xs).length := by
        unfold refOut refAll
        rw [List.length_map]
        have := setQ_long (a := f.map (·.1)) (b := f.map (·.1) ++ xs) (xs_unit hf).ok hall (upQ_xs2 hf) (fun x hx => List.mem_append_left _ hx)
        rw [List.length_map] at this
        exact this
      refine ⟨hm, hlen, ?_⟩
      unfold sameQ
      rw [if_pos ⟨hf, hm⟩]
      have : simpleQ f = simpleQ (refOut f xs) := by
        refine (same_iff hf hm).2 (fun x x1 x2 => ?_)
        refine (eval_vals hf (xs := refAll f xs) (setQ_up hall) (fun x hx => ⟨hun x hx, ?_⟩) (fun r hr => ?_) x x1 x2).symm
        · unfold allV at ha
          exact List.all_eq_true.1 ha x hx
        · unfold refAll
          rw [setQ_mem]
          exact List.mem_append_left _ (List.mem_map.2 ⟨r, hr, rfl⟩)
      rw [decide_eq_true this]
    · cases h
  · cases h
theorem clampV_range {f : List Pt} {lo hi x : Q} (hf : okMap f = true) (h1 : unitQ lo.1 lo.2 = true) (h2 : unitQ hi.1 hi.2 = true) (hl : toR lo ≤ toR hi) (hx : unitQ x.1 x.2 = true) : toR lo ≤ toR (clampV f lo hi x) ∧ toR (clampV f lo hi x) ≤ toR hi := by
  have h3 := valQ_unit hf hx
  have k1 := (okQ_bd (unitQ_ok h1)).1
  have k2 := (okQ_bd (unitQ_ok h2)).1
  have k3 := (okQ_bd (unitQ_ok h3)).1
  unfold clampV
  simp only
  have e1 := lessQ_iff (n1 := (valQ f x).1.1) (n2 := lo.1) k3 k1
  change _ ↔ toR (valQ f x).1 < toR lo at e1
  by_cases c : lessQ (valQ f x).1.1 (valQ f x).1.2 lo.1 lo.2 = true
  · rw [if_pos c]
    have e2 := lessQ_iff (n1 := hi.1) (n2 := lo.1) k2 k1
    change _ ↔ toR hi < toR lo at e2
    rw [if_neg (fun h => by have := e2.1 h; grind)]
    exact ⟨Rat.le_refl, hl⟩
  · rw [if_neg c]
    have c' : ¬ toR (valQ f x).1 < toR lo := fun h => c (e1.2 h)
    have e2 := lessQ_iff (n1 := hi.1) (n2 := (valQ f x).1.1) k2 k3
    change _ ↔ toR hi < toR (valQ f x).1 at e2
    by_cases d : lessQ hi.1 hi.2 (valQ f x).1.1 (valQ f x).1.2 = true
    · rw [if_pos d]; exact ⟨hl, Rat.le_refl⟩
    · rw [if_neg d]
      have d' : ¬ toR hi < toR (valQ f x).1 := fun h => d (e2.2 h)
      exact ⟨by grind, by grind⟩
theorem clamp_parts {f c : List Pt} {lo hi : Q} (h : clampQ f lo hi = (c, true)) : okMap f = true ∧ unitQ lo.1 lo.2 = true ∧ unitQ hi.1 hi.2 = true ∧ toR lo ≤ toR hi ∧ madeQ (clampL f lo hi) = (c, true) := by
  unfold clampQ at h
  split at h
  · rename_i ha
    unfold clampAsk at ha
    rw [Bool.and_eq_true, Bool.and_eq_true, Bool.and_eq_true, Bool.not_eq_true'] at ha
    obtain ⟨⟨⟨hf, h1⟩, h2⟩, h3⟩ := ha
    split at h
    · refine ⟨hf, h1, h2, ?_, h⟩
      have e := lessQ_iff (n1 := hi.1) (n2 := lo.1) (okQ_bd (unitQ_ok h2)).1 (okQ_bd (unitQ_ok h1)).1
      rw [h3] at e
      have : ¬ toR (hi.1, hi.2) < toR (lo.1, lo.2) := fun h => by simpa using e.2 h
      exact Rat.not_lt.1 this
    · cases h
  · cases h
/-- All values of a clamped map lie within the bounds. -/
theorem clamp_range {f c : List Pt} {lo hi : Q} (h : clampQ f lo hi = (c, true)) : okMap c = true ∧ simpleQ c = c ∧ ∀ p ∈ c, toR lo ≤ toR p.2 ∧ toR p.2 ≤ toR hi := by
  obtain ⟨hf, h1, h2, hl, hm⟩ := clamp_parts h
  have hj := clampL_joined hf h1 h2
  obtain ⟨m, s, -⟩ := made_eval hj hm
  obtain ⟨hc, e, -⟩ := made_parts hm
  refine ⟨m, s, fun p hp => ?_⟩
  rw [e] at hp
  have hp := (simple_sub hc hj.up hj.len.1).subset hp
  unfold clampL ptsQ at hp
  obtain ⟨x, hx, rfl⟩ := List.mem_map.1 hp
  exact clampV_range hf h1 h2 hl (cutAll_unit hf (two_ok h1 h2) x hx)
theorem mem_pc {ps : List Pt} {s : Pt × Pt} (h : s ∈ pcs ps) : s.1 ∈ ps ∧ s.2 ∈ ps := by
  obtain ⟨i, h1, h2⟩ := mem_pcs.1 h
  exact ⟨List.mem_of_getElem? h1, List.mem_of_getElem? h2⟩
/-- No piece crosses a value that none of the points is below (or above). -/
theorem no_cross {c : List Pt} (hm : okMap c = true) {y : Q} (hy : okQ y.1 y.2 = true) (h : (∀ p ∈ c, toR y ≤ toR p.2) ∨ (∀ p ∈ c, toR p.2 ≤ toR y)) : ∀ s ∈ pcs c, crossY y s.1 s.2 = false := fun s hs => by
  obtain ⟨c1, c2⟩ := okMap_pc hm hs
  obtain ⟨m1, m2⟩ := mem_pc hs
  rw [← Bool.not_eq_true]
  intro hc
  rcases (crossY_iff c1 c2 hy).1 hc with ⟨a, b⟩ | ⟨a, b⟩ <;> rcases h with h | h
  · have := h _ m1; grind
  · have := h _ m2; grind
  · have := h _ m2; grind
  · have := h _ m1; grind
theorem bef_none {c : List Pt} {y : Q} (h : ∀ s ∈ pcs c, crossY y s.1 s.2 = false) : befOk y c = true ∧ ∀ k, ∀ x ∈ befL y c k, x ∈ c.map (·.1) := by
  constructor
  · unfold befOk
    rw [Bool.not_eq_true', List.any_eq_false]
    intro s hs
    unfold badPc
    rw [h s hs]
    simp
  · intro k x hx
    unfold befL at hx
    rcases List.mem_append.1 hx with hx | hx
    · obtain ⟨p, hp, hm⟩ := List.mem_flatMap.1 hx
      split at hm
      · obtain rfl := List.mem_singleton.1 hm
        exact List.mem_map.2 ⟨p, List.mem_of_mem_take (List.mem_of_mem_take hp), rfl⟩
      · simp at hm
    · obtain ⟨s, hs, hm⟩ := List.mem_flatMap.1 hx
      have hs := List.mem_of_mem_take hs
      unfold befI at hm
      rcases List.mem_append.1 hm with hm | hm
      · split at hm
        · obtain rfl := List.mem_singleton.1 hm
          exact List.mem_map.2 ⟨s.2, (mem_pc hs).2, rfl⟩
        · simp at hm
      · rw [if_neg (by rw [h s hs]; decide)] at hm
        simp at hm
/-- What is clamped stays as it is. -/
theorem clamp_again {f c : List Pt} {lo hi : Q} (h : clampQ f lo hi = (c, true)) : clampQ c lo hi = (c, true) := by
  obtain ⟨hf, h1, h2, hl, -⟩ := clamp_parts h
  obtain ⟨hm, hs, hr⟩ := clamp_range h
  obtain ⟨b1, m1⟩ := bef_none (no_cross hm (unitQ_ok h1) (Or.inl (fun p hp => (hr p hp).1)))
  obtain ⟨b2, m2⟩ := bef_none (no_cross hm (unitQ_ok h2) (Or.inr (fun p hp => (hr p hp).2)))
  have hxs : clampXs c lo hi = c.map (·.1) := by
    have hok := cutL_unit hm (two_ok h1 h2) [lo, hi].length
    unfold clampXs cutAll
    refine (setQ_of hok.ok (upQ_xs2 hm) (fun x => ⟨fun hx => by unfold cutL; exact List.mem_append_left _ hx, fun hx => ?_⟩)).symm
    unfold cutL at hx
    rcases List.mem_append.1 hx with hx | hx
    · exact hx
    · obtain ⟨y, hy, hx2⟩ := List.mem_flatMap.1 hx
      rw [setQ_mem] at hx2
      have hy := List.mem_of_mem_take hy
      simp only [List.mem_cons, List.not_mem_nil, or_false] at hy
      rcases hy with e | e
      · rw [e] at hx2; exact m1 _ x hx2
      · rw [e] at hx2; exact m2 _ x hx2
  have hv : ∀ p ∈ c, valQ c p.1 = (p.2, true) := fun p hp => by
    obtain ⟨i, hi⟩ := List.getElem?_of_mem hp
    exact valQ_point hm hi
  have hL : clampL c lo hi = c := by
    unfold clampL ptsQ
    rw [hxs, List.map_map]
    have : ∀ p ∈ c, ((fun x => (x, clampV c lo hi x)) ∘ (·.1)) p = id p := fun p hp => by
      have e := hv p hp
      have k2 := (okQ_bd (unitQ_ok h2)).1
      have k1 := (okQ_bd (unitQ_ok h1)).1
      have k3 := (okQ_bd (unitQ_ok (coordQ_unit (okMap_coP hm p hp).2))).1
      obtain ⟨g1, g2⟩ := hr p hp
      have e1 := lessQ_iff (n1 := p.2.1) (n2 := lo.1) k3 k1
      have e2 := lessQ_iff (n1 := hi.1) (n2 := p.2.1) k2 k3
      change _ ↔ toR p.2 < toR lo at e1
      change _ ↔ toR hi < toR p.2 at e2
      show (p.1, clampV c lo hi p.1) = p
      unfold clampV
      rw [e]
      simp only
      have c1 : ¬ lessQ p.2.1 p.2.2 lo.1 lo.2 = true := fun h => by have := e1.1 h; grind
      have c2 : ¬ lessQ hi.1 hi.2 p.2.1 p.2.2 = true := fun h => by have := e2.1 h; grind
      rw [if_neg c1, if_neg c2]
    rw [List.map_congr_left this, List.map_id]
  unfold clampQ
  have ha : clampAsk c lo hi = true := by
    unfold clampAsk
    have : lessQ hi.1 hi.2 lo.1 lo.2 = false := by
      rw [← Bool.not_eq_true]
      intro h
      have := (lessQ_iff (okQ_bd (unitQ_ok h2)).1 (okQ_bd (unitQ_ok h1)).1).1 h
      change toR hi < toR lo at this
      grind
    rw [hm, h1, h2, this]; rfl
  have ho : clampOk c lo hi = true := by
    unfold clampOk
    rw [Bool.and_eq_true]
    constructor
    · unfold cutOk
      simp only [List.all_cons, List.all_nil, Bool.and_true, b1, b2]
    · rw [hxs, List.all_eq_true]
      intro x hx
      obtain ⟨p, hp, rfl⟩ := List.mem_map.1 hx
      rw [hv p hp]
  rw [if_pos ha, if_pos ho, hL]
  unfold madeQ
  have hb : c.any badPt = false := by
    rw [List.any_eq_false]
    intro p hp
    have := okMap_coP hm p hp
    unfold badPt
    rw [this.1, this.2]; decide
  rw [hs, if_pos ⟨hb, hm⟩]
theorem bothQ_comm {f g : List Pt} (hf : okMap f = true) (hg : okMap g = true) : bothQ g f = bothQ f g := by
  unfold bothQ
  refine setQ_of ((okL_xs hf).app (okL_xs hg)) (setQ_up ((okL_xs hg).app (okL_xs hf))) (fun x => ?_)
  rw [setQ_mem, List.mem_append, List.mem_append]
  exact Or.comm
/-- The middle of two maps is that of both turned round. -/
theorem middle_comm {f g : List Pt} : midMapQ g f = midMapQ f g := by
  unfold midMapQ
  by_cases hf : okMap f = true
  · by_cases hg : okMap g = true
    · have hb := bothQ_comm hf hg
      have hun := bothQ_unit hf hg
      have hM : ∀ x ∈ bothQ f g, midM g f x = midM f g x := fun x hx => by
        have k1 := unitQ_ok (valQ_unit hf (hun x hx))
        have k2 := unitQ_ok (valQ_unit hg (hun x hx))
        unfold midM
        rw [midQ_fit k2 k1, midQ_fit k1 k2, Rat.add_comm]
      have e1 : allM g f (bothQ f g) = allM f g (bothQ f g) := by
        unfold allM
        rw [Bool.eq_iff_iff, List.all_eq_true, List.all_eq_true]
        constructor
        · intro h x hx
          have := h x hx
          unfold midT at this ⊢
          rw [hM x hx] at this
          rw [Bool.and_comm (valQ f x).2]
          exact this
        · intro h x hx
          have := h x hx
          unfold midT at this ⊢
          rw [hM x hx]
          rw [Bool.and_comm (valQ g x).2]
          exact this
      have e2 : midL g f = midL f g := by
        unfold midL
        rw [hb]
        exact List.map_congr_left (fun x hx => by unfold midPt midV; rw [hM x hx])
      rw [hb, e1, e2, Bool.and_comm]
    · rw [Bool.not_eq_true] at hg
      rw [hf, hg]; rfl
  · rw [Bool.not_eq_true] at hf
    rw [hf, Bool.false_and, Bool.and_false, if_neg (by decide), if_neg (by decide)]
/-- Maps that are below each other are the same. -/
theorem below_law {f g : List Pt} {i : Bool} (h : belowQ f g = (i, true)) : ∃ k, belowQ g f = (k, true) ∧ sameQ f g = (i && k, true) := by
  unfold belowQ at h
  split at h
  · rename_i hh
    rw [Bool.and_eq_true] at hh
    obtain ⟨hf, hg⟩ := hh
    split at h
    · rename_i ha
      obtain ⟨rfl, -⟩ := Prod.mk.inj h
      have hb := bothQ_comm hf hg
      have hun := bothQ_unit hf hg
      have ha2 : allFine g f = true := by
        unfold allFine at ha ⊢
        rw [hb]
        rw [List.all_eq_true] at ha ⊢
        intro x hx
        have := ha x hx
        unfold fineV at this ⊢
        rw [Bool.and_comm]; exact this
      refine ⟨(bothQ f g).all (belB g f), ?_, ?_⟩
      · unfold belowQ
        rw [if_pos (by rw [hf, hg]; rfl), if_pos ha2, hb]
      · unfold sameQ
        rw [if_pos ⟨hf, hg⟩]
        refine Prod.ext ?_ rfl
        show decide (simpleQ f = simpleQ g) = _
        rw [Bool.eq_iff_iff, decide_eq_true_iff, both_same hf hg ha, Bool.and_eq_true, List.all_eq_true, List.all_eq_true]
        have key : ∀ x ∈ bothQ f g, ((valQ f x).1 = (valQ g x).1 ↔ belB f g x = true ∧ belB g f x = true) := fun x hx => by
          have k1 := unitQ_ok (valQ_unit hf (hun x hx))
          have k2 := unitQ_ok (valQ_unit hg (hun x hx))
          have e1 := lessQ_iff (n1 := (valQ g x).1.1) (n2 := (valQ f x).1.1) (okQ_bd k2).1 (okQ_bd k1).1
          have e2 := lessQ_iff (n1 := (valQ f x).1.1) (n2 := (valQ g x).1.1) (okQ_bd k1).1 (okQ_bd k2).1
          change _ ↔ toR (valQ g x).1 < toR (valQ f x).1 at e1
          change _ ↔ toR (valQ f x).1 < toR (valQ g x).1 at e2
          unfold belB
          rw [Bool.not_eq_true', Bool.not_eq_true', ← Bool.not_eq_true, ← Bool.not_eq_true, e1, e2]
          constructor
          · intro h; rw [h]; exact ⟨Rat.lt_irrefl, Rat.lt_irrefl⟩
          · rintro ⟨a, b⟩
            exact toR_inj k1 k2 (by grind)
        exact ⟨fun h => ⟨fun x hx => ((key x hx).1 (h x hx)).1, fun x hx => ((key x hx).1 (h x hx)).2⟩, fun h x hx => (key x hx).2 ⟨h.1 x hx, h.2 x hx⟩⟩
    · cases h
  · cases h
/-- A joined map has the first one's value at the place. -/
theorem join_value {f g j : List Pt} {x : Q} (h : joinQ f g x = (j, true)) : ∃ a b, vaQ j x = (a, b, true) ∧ vaQ f x = (a, b, true) := by
  unfold joinQ at h
  split at h
  · rename_i hh
    obtain ⟨hf, hg, hx⟩ := hh
    split at h
    · rename_i h2
      have hv := valQ_unit hf hx
      have hj := joined hf hg hx hv
      obtain ⟨m, -, e⟩ := made_eval hj h
      obtain ⟨hc, -, -⟩ := made_parts h
      have hin : (x, (valQ f x).1) ∈ joinL f g x (valQ f x).1 := by unfold joinL; simp
      obtain ⟨c1, c2⟩ := hc _ hin
      have hev := eval_point _ hj.up _ hin
      refine ⟨(valQ f x).1.1, (valQ f x).1.2, ?_, ?_⟩
      · refine vaQ_of m hx (valQ_coord m c1 c2 ?_)
        rw [e]; exact hev
      · exact vaQ_of hf hx (Prod.ext rfl h2.1)
    · cases h
  · cases h
end Go.Proofs.YtkeajfgcjmhmiaaGreat
