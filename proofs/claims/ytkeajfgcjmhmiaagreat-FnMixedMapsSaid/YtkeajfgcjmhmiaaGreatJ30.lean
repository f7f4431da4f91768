/- The program's composed and ComposeMaps. -/
import Derived.Test.YtkeajfgcjmhmiaaGreatJ28
import Derived.Test.YtkeajfgcjmhmiaaGreatJ29
namespace Go.Proofs.YtkeajfgcjmhmiaaGreat
open Go.RowKit

theorem OwQ.ne_lowC {base g : Nat} {e : TypeId} {w : World} {v : Value} {qs : List Q} (h : OwQ base e w v qs) (hg : g < base) : v.ownBlock ≠ some g := by
  intro hb
  have := (World.ownsRow.lt h g hb).1
  omega
theorem comQ_fin {f g m : List Pt} {t : Bool} (h : comQ f g = (m, t)) : (if ((!cutOk g (f.map (·.1))) || !(comXs f g).all (comT f g)) = true then ([], false) else madeQ (comL f g)) = (m, t) := by
  rw [← h]
  unfold comQ
  cases cutOk g (f.map (·.1)) <;> cases (comXs f g).all (comT f g) <;> rfl
theorem com_len (f g : List Pt) (k : Nat) (h1 : f.length ≤ 12) (h2 : g.length ≤ 12) : (cutL g (f.map (·.1)) k).length ≤ 312 := by
  have h := cutL_len g (f.map (·.1)) k
  rw [List.length_map] at h
  have h4 : (1 + 2 * g.length) * f.length ≤ 25 * 12 := Nat.mul_le_mul (by omega) h1
  omega
theorem cutL_pos {g : List Pt} (ys : List Q) (k : Nat) (h : 2 ≤ g.length) : 1 ≤ (cutL g ys k).length := by
  unfold cutL
  rw [List.length_append, List.length_map]
  omega
theorem xs_at {f : List Pt} {k : Nat} {p : Pt} (h : f[k]? = some p) : (f.map (·.1))[k]? = some p.1 := by
  rw [List.getElem?_map, h]; rfl

def RelCm (f g : List Pt) (gc h : Nat) (W0 : World) (xs i : Value) (wr : World) : Prop :=
  ∃ k : Nat, k ≤ f.length ∧ i = .int .i64 k ∧ OwQ h 31 wr xs (cutL g (f.map (·.1)) k) ∧ Slot wr gc 0 (.bool (cutBad g (f.map (·.1)) k)) ∧ Below gc W0 wr ∧ W0.heap.size ≤ wr.heap.size

set_option maxRecDepth 100000 in
set_option maxHeartbeats 6400000 in
theorem composed_is (f g : List Pt) (vf vg : Value) (m : List Pt) (t : Bool) (hl : comQ f g = (m, t)) (w : World) (hf : RdP w vf f) (hg : RdP w vg g) (mf : okMap f = true) (mg : okMap g = true) :
    Calls Tryz.prog 68 #[vf, vg] w (RetPB w m t) := by
  have HF := Lib.hid hf
  have HG := Lib.hid hg
  have HFin := Lib.hid (comQ_fin hl)
  have HMf := Lib.hid mf
  have HMg := Lib.hid mg
  have HOf := Lib.hid (fun (x : Nat) (hx : w.heap.size ≤ x) => hf.old (okMap_ne mf) (g := x) hx)
  have HOg := Lib.hid (fun (x : Nat) (hx : w.heap.size ≤ x) => hg.old (okMap_ne mg) (g := x) hx)
  have l1 := okMap_len mf
  have l2 := okMap_len mg
  have HYs := Lib.hid (show OkL (f.map (·.1)) from (xs_unit mf).ok)
  have HLe := Lib.hid (fun k => com_len f g k l1.2 l2.2)
  have HJ := Lib.hid (comL_joined mf mg)
  have HUn := Lib.hid (fun k => cutL_unit mg (xs_unit mf).ok k)
  obtain ⟨A1, c1, rfl, hl1, hm1, hcell⟩ := hf
  obtain ⟨A2, c2, rfl, hl2, hm2, -⟩ := hg
  unfold maxLen at hm1 hm2
  obtain ⟨gb, o, rfl, hgb, hcc⟩ := hcell (okMap_ne mf)
  have HC := Lib.hid hcc
  clear hl mf mg hcell hcc
  go_enter Tryz.func68, Tryz.ntmps68
  go_wp2_with fail
  refine (xsOf_any g _ _ (HG.out.keep (by go_grown)) (by omega)).mono ?_
  rintro e w2 ⟨r1, rfl, os1, hb⟩
  have hB : Below w.heap.size w w2 := nextX (by go_grown) hb
  have f2 : w2.cell? ⟨w.heap.size, 0, none⟩ = some (.slice (some ⟨gb, o, none⟩) f.length c1) := cellB hb (by simp [go_sem])
  have g2 : w2.cell? ⟨w.heap.size + 1, 0, none⟩ = some (.slice A2 g.length c2) := cellB hb (by simp [go_sem])
  have s2 : Slot w2 (w.heap.size + 1 + 1) 0 (.bool false) := slotB hb ⟨by simp [go_sem], by simp [go_sem]⟩
  have zc := lt_of_cell s2.1
  have zc1 : w.heap.size + 1 < w2.heap.size := by omega
  have zc0 : w.heap.size < w2.heap.size := by omega
  have HO2 := Lib.hid (show OwQ (w.heap.size + 1 + 1 + 1) 31 w2 r1 (cutL g (f.map (·.1)) 0) by rw [cutL_zero]; exact os1.low (by go_size))
  have HS2 := Lib.hid s2
  have HF2 := Lib.hid f2
  have HG2 := Lib.hid g2
  clear os1 hb s2 g2
  go_wp2_with fail
  go_name_world W0 hW
  have hX0 : Below w2.heap.size w2 W0 := by rw [← hW]; go_grown
  have hB0 := nextX hB hX0
  have HF0 := Lib.hid (cellB hX0 HF2.out)
  have HG0 := Lib.hid (cellB hX0 HG2.out)
  have zd : w2.heap.size ≤ W0.heap.size := hX0.size
  have HO0 := Lib.hid (HO2.out.keep hX0)
  have HS0 := Lib.hid (slotB hX0 HS2.out)
  clear hW f2 hB HF2 HG2 HO2 HS2 hX0
  go_loopw [7, 14] (fun xs i wr => RelCm f g (w.heap.size + 1 + 1) (w.heap.size + 1 + 1 + 1) W0 xs i wr) (fun _ i _ => f.length - (intOf i).toNat)
  case atStart => exact ⟨0, Nat.zero_le _, rfl, HO0.out, by rw [cutBad_zero]; exact HS0.out, Below.refl _ _, Nat.le_refl _⟩
  case round =>
    obtain ⟨k, hk2, rfl, hown, hsl, hbu, zr⟩ := hrel
    have HO := Lib.hid hown
    have HSl := Lib.hid hsl
    have hBr : Below w.heap.size w wr := Below.trans hB0 (hbu.mono (by omega))
    have HGr := Lib.hid ((hbu.cell (p := ⟨w.heap.size + 1, 0, none⟩) (Nat.lt_succ_self _)).trans HG0.out)
    have HFr := Lib.hid ((hbu.cell (p := ⟨w.heap.size, 0, none⟩) (Nat.lt_succ_of_lt (Nat.lt_succ_self _))).trans HF0.out)
    clear hown hsl
    by_cases hlt : k < f.length
    · have hx := List.getElem?_eq_getElem hlt
      generalize f[k] = p at *
      obtain ⟨c00, c01, c02, c03⟩ := HC.out k _ hx
      have hy := xs_at hx
      obtain ⟨⟨p1, p2⟩, p3, p4⟩ := p
      have hoy : okQ p1 p2 = true := HYs.out _ (List.mem_of_getElem? hy)
      have HLn := Lib.hid (cutL_next (g := g) hy)
      have HBn := Lib.hid (cutBad_next (g := g) hy)
      replace c00 := cellB hBr c00
      replace c01 := cellB hBr c01
      replace c02 := cellB hBr c02
      replace c03 := cellB hBr c03
      have HBf := Lib.hid (fun W bd (k1 : Slot W (w.heap.size + 1 + 1) 0 (.bool bd)) (h2 : Below w.heap.size w W) => cBefore_is g _ p1 p2 bd (w.heap.size + 1 + 1) W (HG.out.keep h2) HMg.out (HOg.out _ (by omega)) hoy k1)
      have b0 : (0 : Int) ≤ (k : Int) := by omega
      have b1 : (k : Int) < (f.length : Int) := by omega
      have v2 : IntKind.i64.wrap ((k : Int) + 1) = (k : Int) + 1 := IntWalk.i64_in _ (by omega)
      have v3 : IntKind.i64.wrap (k : Int) = (k : Int) := IntWalk.i64_in _ (by omega)
      have g2 := HGr.out
      have zg2 : w.heap.size + 1 < wr.heap.size := by omega
      clear hx hy hoy
      go_wp2_with fail
      refine (HBf.out _ _ (slotB (by go_grown) HSl.out) (nextX hBr (by go_grown))).mono ?_
      rintro e w5 ⟨r5, rfl, ow5, sl5, bu5⟩
      have hX5 : But (w.heap.size + 1 + 1) wr w5 := (But.of_below (by go_grown : Below wr.heap.size wr _) (Nat.le_refl _)).trans bu5
      have HO5 := Lib.hid (HO.out.keepU hX5 (HO.out.ne_lowC (by omega)))
      have HR5 := Lib.hid ow5.read
      have HS5 := Lib.hid sl5
      have hbu5 := hbu.trans (But.below (Below.refl (w.heap.size + 1 + 1) wr) hX5 (Nat.le_refl _) (by omega))
      have z5 : wr.heap.size ≤ w5.heap.size := hX5.size
      have hl5 := befL_len (p1, p2) g g.length
      have hl6 := setQ_len (befL (p1, p2) g g.length)
      have hl7 := HLe.out k
      clear ow5 sl5 bu5 hX5 HO HSl c00 c01 c02 c03 g2
      go_wp2_with (at_builtin; refine append_rd _ rfl (.tmp 18) (.tmp 22) rfl (w.heap.size + 1 + 1 + 1) _ _ (cutL g (f.map (·.1)) k) (setQ (befL (p1, p2) g g.length)) rfl ?own rfl ?read ?len ?base ?_)
      case own => exact HO5.out.keep (by go_grown)
      case read => exact HR5.out.keep (by go_grown)
      case len => omega
      case base => go_size
      intro v' w' h1 h2
      have hX7 : Below (w.heap.size + 1 + 1 + 1) w5 w' := Below.trans (by go_grown) h2
      have HO7 := Lib.hid h1
      have HS7 := Lib.hid (slot_below hX7 (by omega) HS5.out)
      have HBu7 := Lib.hid (Below.trans hbu5 (hX7.mono (Nat.le_succ _)))
      have z7 : W0.heap.size ≤ w'.heap.size := by have := hX7.size; omega
      clear h1 h2 hX7
      go_wp2_with fail
      go_roundw
      case rel => exact ⟨k + 1, by omega, by go_num, by rw [HLn.out]; exact HO7.out, by rw [HBn.out, ← befB_end]; exact HS7.out, HBu7.out, z7⟩
      case measure => simp [intOf]; omega
    · obtain rfl : k = f.length := by omega
      have hpt := ptsCom_is f g (cutL g (f.map (·.1)) f.length) u7 (.slice (some ⟨gb, o, none⟩) f.length c1) (.slice A2 g.length c2) (cutBad g (f.map (·.1)) f.length) (w.heap.size + 1 + 1) w.heap.size (w.heap.size + 1) wr HO.out (HUn.out _).ok (HUn.out _) ⟨cutL_pos _ _ l2.1, by have := HLe.out f.length; omega⟩ HSl.out ⟨HFr.out, HGr.out, HF.out.keep hBr, HG.out.keep hBr⟩ (by omega) (by omega) (HOf.out _ (by omega)) (HOg.out _ (by omega)) HMf.out HMg.out
      have HPt := Lib.hid hpt
      clear hpt HO HSl
      go_wp2_with fail
      refine (HPt.out).mono ?_
      rintro e w6 ⟨r6, rfl, os6, sc6, hb6⟩
      have hB6 : Below w.heap.size w w6 := Below.trans hBr (hb6.mono (by omega))
      have hz6 : w.heap.size + 1 + 1 < w6.heap.size := lt_of_cell sc6.1
      have hes : (setQ (cutL g (f.map (·.1)) f.length)).map (comPt f g) = comL f g := by
        unfold comL ptsQ comXs cutAll
        rw [List.length_map]
        rfl
      have hea : ((cutBad g (f.map (·.1)) f.length) || !allC f g (setQ (cutL g (f.map (·.1)) f.length))) = ((!cutOk g (f.map (·.1))) || !(comXs f g).all (comT f g)) := by
        have := cutBad_end g (f.map (·.1))
        rw [List.length_map] at this
        rw [this]
        unfold allC comXs cutAll
        rw [List.length_map]
      rw [hes] at os6
      rw [hea] at sc6
      have HR6 := Lib.hid (show RdP w6 r6 (comL f g) from os6.read)
      have HCc := Lib.hid sc6.1
      have HB6 := Lib.hid hB6
      clear os6 sc6 hb6 hB6 HPt hes hea
      go_wp2_with fail
      refine (finish_is (comL f g) _ _ m t (w.heap.size + 1 + 1) HFin.out HJ.out _ HCc.out HR6.out).mono ?_
      rintro e w7 ⟨r7, rfl, ow7, hb7⟩
      have HO7 := Lib.hid (ow7.low (b := w.heap.size) (by omega))
      have hB7 := nextX HB6.out hb7
      clear ow7 hb7
      go_wp2_with fail
      go_ret2
      exact ⟨_, rfl, HO7.out, hB7⟩

set_option maxHeartbeats 1600000 in
theorem iComposeMaps_is (f g : List Pt) (vf vg : Value) (m : List Pt) (t : Bool) (hl : composeQ f g = (m, t)) (w : World) (hf : RdP w vf f) (hg : RdP w vg g) (hn : f.length ≤ 1048576) (hk : g.length ≤ 1048576) :
    Calls Tryz.prog 9 #[vf, vg] w (RetPB w m t) := by
  have HF := Lib.hid hf
  have HG := Lib.hid hg
  have HL := Lib.hid hl
  obtain ⟨A1, c1, rfl, -, -, -⟩ := hf
  obtain ⟨A2, c2, rfl, -, -, -⟩ := hg
  rcases hm1 : okMap f with _ | _
  · obtain ⟨rfl, rfl⟩ : [] = m ∧ false = t := by have := HL.out; unfold composeQ at this; rw [if_neg (by rw [hm1]; simp)] at this; exact Prod.mk.inj this
    have HM := Lib.hid hm1
    clear hl hm1
    go_enter Tryz.func9, Tryz.ntmps9
    go_wp2_with fail
    refine (isMap_is f _ false _ (HF.out.keep (by go_grown)) hn HM.out).mono ?_
    rintro e w1 ⟨rfl, hb⟩
    have hB : Below w.heap.size w w1 := nextX (by go_grown) hb
    clear hb
    go_wp2_with fail
    go_ret2
    exact ⟨_, rfl, World.ownsRow_nil _ _ _ _, hB⟩
  · have HM1 := Lib.hid hm1
    obtain ⟨u, hm2⟩ : ∃ u, okMap g = u := ⟨_, rfl⟩
    have HM2 := Lib.hid hm2
    clear hl
    go_enter Tryz.func9, Tryz.ntmps9
    go_wp2_with fail
    refine (isMap_is f _ true _ (HF.out.keep (by go_grown)) hn HM1.out).mono ?_
    rintro e w1 ⟨rfl, hb⟩
    have hB : Below w.heap.size w w1 := nextX (by go_grown) hb
    clear hb
    go_wp2_with fail
    refine (isMap_is g _ u _ (HG.out.keep hB) hk HM2.out).mono ?_
    rintro e w2 ⟨rfl, hb⟩
    have hX2 : Below w1.heap.size w1 w2 := nextX (by go_grown) hb
    replace hB := nextX hB hX2
    clear hb hX2
    rcases u with _ | _
    · obtain ⟨rfl, rfl⟩ : [] = m ∧ false = t := by have := HL.out; unfold composeQ at this; rw [if_neg (by rw [HM2.out]; simp)] at this; exact Prod.mk.inj this
      go_wp2_with fail
      go_ret2
      exact ⟨_, rfl, World.ownsRow_nil _ _ _ _, hB⟩
    · have hres : comQ f g = (m, t) := by have := HL.out; unfold composeQ at this; rwa [if_pos (by rw [hm1, hm2]; rfl)] at this
      have HRes := Lib.hid hres
      have hzw := hB.size
      clear hres hm1 hm2
      go_wp2_with fail
      refine (composed_is f g _ _ m t HRes.out _ (HF.out.keep (nextX hB (by go_grown))) (HG.out.keep (nextX hB (by go_grown))) HM1.out HM2.out).mono ?_
      rintro e w4 ⟨r4, rfl, ow4, hb⟩
      have HO4 := Lib.hid (ow4.low (b := w.heap.size) (by go_size))
      have hB4 := nextX hB hb
      clear ow4 hb
      go_wp2_with fail
      go_ret2
      exact ⟨_, rfl, HO4.out, hB4⟩

end Go.Proofs.YtkeajfgcjmhmiaaGreat
